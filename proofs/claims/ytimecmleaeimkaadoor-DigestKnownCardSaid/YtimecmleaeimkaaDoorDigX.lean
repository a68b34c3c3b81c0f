/- The reference's New, More, Done and Sum. -/
import Derived.Test.YtimecmleaeimkaaDoorDigW
namespace Go.Proofs.YtimecmleaeimkaaDoor
open Go.RowKit
set_option linter.unusedVariables false
attribute [local go_sem] q32 q64

/-- Two results: a row, and a slot. -/
theorem results_row_tmp {P : Program} {fn : Func} {p q : Tmp} {ty : TypeId} (h : fn.results = #[.cell p ty, .tmp q]) (tmps : Array Value) (w : World) (g : Nat) (t : TypeId) (cs : Array Value) (fr : Nat × Nat) (d : TypeDesc) (v : Value)
    (hp : tmps.getD p undef = .pointer (some ⟨g, 0, none⟩)) (hg : w.heap[g]? = some (.cells cs t fr))
    (hu : P.underlying ty = some d) (hd : (match d with | .struct _ | .array _ _ => true | _ => false) = true) (hi : (P.info? ty).map (·.size) = some cs.size) (hq : tmps.getD q undef = v) :
    (results fn tmps).run P w = .ok (.tuple #[.agg cs, v]) w := by
  have hp' : tmps[p]?.getD undef = .pointer (some ⟨g, 0, none⟩) := by simpa using hp
  have hq' : tmps[q]?.getD undef = v := by simpa using hq
  simp [results, h, hp', hq', asAddr, run_loadVar_row w g t ty cs fr d hg hu hd hi]

def dgZ : Array Value := #[.int .i64 0, .int .i64 0, .int .i64 0, .int .i64 0, .int .i64 0, .string ⟨#[]⟩]
theorem dgZ_one : dgZ.all (·.oneCell') = true := by simp [dgZ, Value.oneCell']
theorem dgL_one (x : Q4) (l : Int) (r : ByteArray) : (dgL x l r).all (·.oneCell') = true := by simp [dgL, Value.oneCell']
set_option maxHeartbeats 1000000 in
theorem newR_c (w : World) : Calls Tryd.prog 20 #[] w (Ret w (dgV begin4 0 ⟨#[]⟩)) := by
  go_enter Tryd.func20, Tryd.ntmps20
  go_wp2_with (first | (go_at_call 43; refine (beginR_c _).mono ?_; rintro e w1 ⟨rfl, hb⟩; unfold v64 q64; have hrow := Hd.mk (Ext.blk hb (heap_alloc_new _ _))) | (refine wpList_store_row rfl _ _ _ rfl w.heap.size (dgL begin4 0 ⟨#[]⟩) rfl rfl _ _ hrow.out (by kernel_rfl) rfl (dgL_one _ _ _) ?_))
  refine bodyPost_ret (results_cell_row Tryd.results20 _ _ w.heap.size _ _ _ _ rfl (setRow_heap _ _ _ _ _ _ hrow.out) Tryd.underlying41 rfl (by kernel_rfl)) rfl ?_
  exact ⟨rfl, Ext.setRow (by repeat (first | exact Ext.refl _ | assumption | apply Ext.alloc | apply Ext.drew | apply Ext.drewN | apply Ext.bytes | apply Ext.iter | refine Ext.setCell ?_ (by simp; omega) _ | refine Ext.trans ?_ (by assumption))) (Nat.le_refl _) _⟩

/-- The octets behind the last full block. -/
def tl (s : ByteArray) : ByteArray := s.extract (64 * (s.size / 64)) s.size
theorem tl_size (s : ByteArray) : (tl s).size = s.size % 64 := by unfold tl; rw [ByteArray.size_extract]; omega
structure Dg where
  x : Q4
  l : Int
  r : ByteArray
def Dg.v (d : Dg) : Value := dgV d.x d.l d.r
def Dg.zero : Dg := ⟨⟨0, 0, 0, 0⟩, 0, ⟨#[]⟩⟩
def moreS (d : Dg) (s : ByteArray) : Dg × Int :=
  if rightB d.x d.l d.r = false then (.zero, 80)
  else if 65536 < d.l + s.size then (.zero, 3)
  else (⟨chg (d.r ++ s) ((d.r ++ s).size / 64) d.x, d.l + s.size, tl (d.r ++ s)⟩, 0)
def DgC (S : Nat → Prop) (wr : World) (B : Nat) (x : Q4) (l : Int) (r : ByteArray) (w' : World) : Prop :=
  Exts S wr w' ∧ w'.cell? ⟨B, 0, none⟩ = some (.int .i64 x.a) ∧ w'.cell? ⟨B, 1, none⟩ = some (.int .i64 x.b) ∧ w'.cell? ⟨B, 2, none⟩ = some (.int .i64 x.c) ∧ w'.cell? ⟨B, 3, none⟩ = some (.int .i64 x.d) ∧
    w'.cell? ⟨B, 4, none⟩ = some (.int .i64 l) ∧ w'.cell? ⟨B, 5, none⟩ = some (.string r)
theorem DgC.of {S : Nat → Prop} {wr : World} {B : Nat} {x : Q4} {l : Int} {r : ByteArray} {t : TypeId} (h : wr.heap[B]? = some (.cells (dgL x l r) t (0, 0))) (hB : ¬ S B) : ∀ w', Exts S wr w' → DgC S wr B x l r w' := fun w' hw =>
  ⟨hw, hw.cell (row_cell h rfl) hB, hw.cell (row_cell h rfl) hB, hw.cell (row_cell h rfl) hB, hw.cell (row_cell h rfl) hB, hw.cell (row_cell h rfl) hB, hw.cell (row_cell h rfl) hB⟩
set_option maxHeartbeats 2000000 in
set_option maxRecDepth 100000 in
theorem moreR_c (d : Dg) (s : ByteArray) (hr : d.r.size ≤ 140737488351232) (hs : s.size ≤ 140737488351232) (w : World) : Calls Tryd.prog 19 #[d.v, .string s] w (Ret w (.tuple #[(moreS d s).1.v, .int .i64 (moreS d s).2])) := by
  obtain ⟨x, l, r⟩ := d
  have hR := rightR_c x l r
  simp only at hr
  have HR := Hd.mk hR
  clear hR
  cases hrt : rightB x l r
  · have HM := Hd.mk (show moreS ⟨x, l, r⟩ s = (.zero, 80) by unfold moreS; rw [if_pos hrt])
    rw [hrt] at HR
    clear hrt
    unfold Dg.v dgV dgL
    unfold dgV dgL at HR
    go_enter Tryd.func19, Tryd.ntmps19
    go_wp2_with (first | (go_at_call 49; refine (HR.out _).mono ?_; rintro e w1 ⟨rfl, hb⟩; have hrow := Hd.mk (Ext.blk hb (heap_new _ _ (World.size_alloc _ _)))) | (refine wpList_store_row rfl _ _ _ rfl (w.heap.size + 1) dgZ rfl rfl _ _ hrow.out (by kernel_rfl) rfl dgZ_one ?_))
    refine bodyPost_ret (results_row_tmp Tryd.results19 _ _ (w.heap.size + 1) _ _ _ _ (.int .i64 80) rfl (setRow_heap _ _ _ _ _ _ hrow.out) Tryd.underlying41 rfl (by kernel_rfl) rfl) rfl ?_
    exact ⟨by rw [HM.out]; rfl, Ext.setRow (by repeat (first | exact Ext.refl _ | assumption | apply Ext.alloc | apply Ext.drew | apply Ext.drewN | apply Ext.bytes | apply Ext.iter | refine Ext.setCell ?_ (by simp; omega) _ | refine Ext.trans ?_ (by assumption))) (by omega) _⟩
  obtain ⟨hxU, hl0, hl1, hrl⟩ := (rightB_iff x l r).1 hrt
  by_cases hlen : 65536 < l + s.size
  · have HM := Hd.mk (show moreS ⟨x, l, r⟩ s = (.zero, 3) by unfold moreS; rw [if_neg (by rw [hrt]; decide), if_pos hlen])
    rw [hrt] at HR
    clear hrt hrl hxU
    unfold Dg.v dgV dgL
    unfold dgV dgL at HR
    go_enter Tryd.func19, Tryd.ntmps19
    go_wp2_with (first | (go_at_call 49; refine (HR.out _).mono ?_; rintro e w1 ⟨rfl, hb⟩; have hrow := Hd.mk (Ext.blk hb (heap_new _ _ (World.size_alloc _ _))); have hl4 := row_cell (Ext.blk hb (Ext.blk (Ext.alloc (Ext.refl _) _) (heap_alloc_new _ _))) (j := 4) (v := .int .i64 l) rfl) | (refine wpList_store_row rfl _ _ _ rfl (w.heap.size + 1) dgZ rfl rfl _ _ hrow.out (by kernel_rfl) rfl dgZ_one ?_))
    refine bodyPost_ret (results_row_tmp Tryd.results19 _ _ (w.heap.size + 1) _ _ _ _ (.int .i64 3) rfl (setRow_heap _ _ _ _ _ _ hrow.out) Tryd.underlying41 rfl (by kernel_rfl) rfl) rfl ?_
    exact ⟨by rw [HM.out]; rfl, Ext.setRow (by repeat (first | exact Ext.refl _ | assumption | apply Ext.alloc | apply Ext.drew | apply Ext.drewN | apply Ext.bytes | apply Ext.iter | refine Ext.setCell ?_ (by simp; omega) _ | refine Ext.trans ?_ (by assumption))) (by omega) _⟩
  · have hrs : (r ++ s).size = r.size + s.size := ByteArray.size_append
    have hsz : r.size + s.size ≤ 9223372036854775807 := by omega
    have HM := Hd.mk (show moreS ⟨x, l, r⟩ s = (⟨chg (r ++ s) ((r ++ s).size / 64) x, l + s.size, tl (r ++ s)⟩, 0) by unfold moreS; rw [if_neg (by rw [hrt]; decide), if_neg hlen])
    have hC := changedR_c x hxU (r ++ s) (by rw [hrs]; omega)
    have htl := Hd.mk (show tl (r ++ s) = (r ++ s).extract (64 * ((r ++ s).size / 64)) (r ++ s).size from rfl)
    have Hrs := Hd.mk hrs
    generalize hall : r ++ s = all at *
    clear hrs
    generalize chg all (all.size / 64) x = y at *
    have HC := Hd.mk hC
    clear hC
    rw [hrt] at HR
    clear hrt hrl
    unfold Dg.v dgV dgL
    unfold dgV dgL at HR
    unfold v64 q64 at HC
    have hle : all.size ≤ 281474976710656 := by have := Hrs.out; omega
    go_enter Tryd.func19, Tryd.ntmps19
    go_upto_region 6 with (first | (go_at_call 49; refine (HR.out _).mono ?_; rintro e w1 ⟨rfl, hb⟩; have hrow := Hd.mk (Ext.blk hb (heap_new _ _ (World.size_alloc _ _))); have hrd := Ext.blk hb (Ext.blk (Ext.alloc (Ext.refl _) _) (heap_alloc_new _ _)); have hl4 := row_cell hrd (j := 4) (v := .int .i64 l) rfl; have hl5 := row_cell hrd (j := 5) (v := .string r) rfl; have Hrd := Hd.mk hrd; clear hrd))
    obtain ⟨m, em⟩ : ∃ m, all.size % 64 = m := ⟨_, rfl⟩
    obtain ⟨kk, ek⟩ : ∃ k, 64 * (all.size / 64) = k := ⟨_, rfl⟩
    have q1 : IntKind.i64.wrap (l + (s.size : Int)) = l + (s.size : Int) := IntWalk.i64_in _ (by omega)
    have q2 : (all.size : Int).tmod 64 = (m : Int) := by rw [Int.tmod_eq_emod_of_nonneg (by omega)]; omega
    have q3 : IntKind.i64.wrap ((all.size : Int) - (m : Int)) = (kk : Int) := by rw [IntWalk.i64_in _ (by omega)]; omega
    have hki : (kk : Int) ≤ all.size := by omega
    have hkn : kk ≤ all.size := by omega
    have Htl := Hd.mk (show tl all = all.extract kk all.size by rw [htl.out, ek])
    clear em ek
    refine wp_region_x (DgC (· = w.heap.size + 1) w1 w.heap.size x l r) false (by kernel_rfl) (by kernel_rfl) (DgC.of Hrd.out (by omega) _ (Exts.drew (Exts.refl _))) ?_
    (repeat (first
       | (refine wpX_skip rfl ?_; (try simp only [Act.put, List.setIfInBounds_toArray, List.set_cons_zero, List.set_cons_succ]))
       | (apply wpX_still; exact rfl; exact rfl; (rintro w' ⟨hw', f0, f1, f2, f3, f4, f5⟩; go_simp; first | done | exact rfl); (try simp only [Act.put, List.setIfInBounds_toArray, List.set_cons_zero, List.set_cons_succ]))))
    (refine wpX_busy rfl rfl ?_; go_simp; go_at_call 42; refine (HC.out _).mono ?_; rintro e wb ⟨rfl, hb2⟩; refine ⟨_, rfl, DgC.of Hrd.out (by omega) _ (Ext.exts (by repeat (first | exact Ext.refl _ | assumption | apply Ext.alloc | apply Ext.drew | apply Ext.drewN | apply Ext.bytes | apply Ext.iter | refine Ext.setCell ?_ (by simp; omega) _ | refine Ext.trans ?_ (by assumption)))), ?_⟩; (try simp only [Act.put, List.setIfInBounds_toArray, List.set_cons_zero, List.set_cons_succ]))
    (repeat (first
       | (refine wpX_skip rfl ?_; (try simp only [Act.put, List.setIfInBounds_toArray, List.set_cons_zero, List.set_cons_succ]))
       | (apply wpX_still; exact rfl; exact rfl; (rintro w' ⟨hw', f0, f1, f2, f3, f4, f5⟩; go_simp; first | done | exact rfl); (try simp only [Act.put, List.setIfInBounds_toArray, List.set_cons_zero, List.set_cons_succ]))))
    have hEb : Ext w1 wb := (by repeat (first | exact Ext.refl _ | assumption | apply Ext.alloc | apply Ext.drew | apply Ext.drewN | apply Ext.bytes | apply Ext.iter | refine Ext.setCell ?_ (by simp; omega) _ | refine Ext.trans ?_ (by assumption)))
    refine wpX_busy rfl rfl (busy_store_row _ _ _ rfl (w.heap.size + 1) (dgL y (l + s.size) (all.extract kk all.size)) rfl rfl _ _ (Ext.blk hEb hrow.out) (by kernel_rfl) rfl (dgL_one _ _ _) (DgC.of Hrd.out (by omega) _ (Exts.setRow (S := (· = w.heap.size + 1)) (Ext.exts hEb) (.inl rfl) _)) ?_)
    simp only [Act.put]
    (repeat (first
       | (refine wpX_skip rfl ?_; (try simp only [Act.put, List.setIfInBounds_toArray, List.set_cons_zero, List.set_cons_succ]))
       | (apply wpX_still; exact rfl; exact rfl; (rintro w' ⟨hw', f0, f1, f2, f3, f4, f5⟩; go_simp; first | done | exact rfl); (try simp only [Act.put, List.setIfInBounds_toArray, List.set_cons_zero, List.set_cons_succ]))))
    refine wpX_end ?_
    go_wp2
    refine bodyPost_ret (results_row_tmp Tryd.results19 _ _ (w.heap.size + 1) _ _ _ _ (.int .i64 0) rfl (setRow_heap _ _ _ _ _ _ (Ext.blk hEb hrow.out)) Tryd.underlying41 rfl (by kernel_rfl) rfl) rfl ?_
    exact ⟨by rw [HM.out, Htl.out]; rfl, Ext.setRow (by repeat (first | exact Ext.refl _ | assumption | apply Ext.alloc | apply Ext.drew | apply Ext.drewN | apply Ext.bytes | apply Ext.iter | refine Ext.setCell ?_ (by simp; omega) _ | refine Ext.trans ?_ (by assumption))) (by omega) _⟩

def row0 : Array Value := #[.int .u8 0, .int .u8 0, .int .u8 0, .int .u8 0, .int .u8 0, .int .u8 0, .int .u8 0, .int .u8 0, .int .u8 0, .int .u8 0, .int .u8 0, .int .u8 0, .int .u8 0, .int .u8 0, .int .u8 0, .int .u8 0]
def digS (s : ByteArray) (x : Q4) : Q4 := chg s (s.size / 64) x
theorem digS_U {s : ByteArray} {x : Q4} (h : x.U) : (digS s x).U := chg_U h
def doneS (d : Dg) : Array Value × Int := if rightB d.x d.l d.r = false then (row0, 80) else (trow (digS (fin d.r d.l.toNat) d.x) 16, 0)
theorem row0_eq (x : Q4) : trow x 0 = row0 := trow_0 x
theorem row0_size : row0.size = 16 := rfl
theorem row0_one : row0.all (·.oneCell') = true := by rw [← row0_eq begin4]; exact trow_one _ _
set_option maxHeartbeats 2000000 in
set_option maxRecDepth 100000 in
theorem doneR_c (d : Dg) (w : World) : Calls Tryd.prog 25 #[d.v] w (Ret w (.tuple #[.agg (doneS d).1, .int .i64 (doneS d).2])) := by
  obtain ⟨x, l, r⟩ := d
  have hR := rightR_c x l r
  have HR := Hd.mk hR
  clear hR
  cases hrt : rightB x l r
  · have HM := Hd.mk (show doneS ⟨x, l, r⟩ = (row0, 80) by unfold doneS; rw [if_pos hrt])
    rw [hrt] at HR
    clear hrt
    unfold Dg.v dgV dgL
    unfold dgV dgL at HR
    go_enter Tryd.func25, Tryd.ntmps25
    go_wp2_with (first | (go_at_call 49; refine (HR.out _).mono ?_; rintro e w1 ⟨rfl, hb⟩; have hrow := Hd.mk (show w1.heap[w.heap.size + 1]? = some (.cells row0 28 (0, 0)) from Ext.blk hb (heap_new _ _ (World.size_alloc _ _)))) | (refine wpList_store_row rfl _ _ _ rfl (w.heap.size + 1) row0 rfl rfl _ _ hrow.out (by kernel_rfl) rfl row0_one ?_))
    refine bodyPost_ret (results_row_tmp Tryd.results25 _ _ (w.heap.size + 1) _ _ _ _ (.int .i64 80) rfl (setRow_heap _ _ _ _ _ _ hrow.out) Tryd.underlying28 rfl (by kernel_rfl) rfl) rfl ?_
    exact ⟨by first | (rw [HM.out]; done) | (rw [HM.out]; rfl), Ext.setRow (by repeat (first | exact Ext.refl _ | assumption | apply Ext.alloc | apply Ext.drew | apply Ext.drewN | apply Ext.bytes | apply Ext.iter | refine Ext.setCell ?_ (by simp; omega) _ | refine Ext.trans ?_ (by assumption))) (by omega) _⟩
  obtain ⟨hxU, hl0, hl1, hrl⟩ := (rightB_iff x l r).1 hrt
  have HM := Hd.mk (show doneS ⟨x, l, r⟩ = (trow (digS (fin r l.toNat) x) 16, 0) by unfold doneS; rw [if_neg (by rw [hrt]; decide)])
  obtain ⟨n, rfl⟩ := Int.eq_ofNat_of_zero_le hl0
  simp only [Int.toNat_natCast] at HM
  have hF := endedR_c r (by omega) n (by omega)
  have hfs := fin_size r n
  have hfc : finC r.size < 64 := by unfold finC; omega
  have hC := changedR_c x hxU (fin r n) (by omega)
  have hU : (digS (fin r n) x).U := digS_U hxU
  change ∀ w, Calls _ _ _ w (Ret w (v64 (digS (fin r n) x))) at hC
  have hT := toldR_c (digS (fin r n) x) hU
  generalize digS (fin r n) x = y at *
  generalize fin r n = z at *
  have HF := Hd.mk hF
  have HC := Hd.mk hC
  have HT := Hd.mk hT
  have hts := trow_size y 16
  have hto := trow_one y 16
  generalize trow y 16 = T at *
  have Hts := Hd.mk hts
  have Hto := Hd.mk hto
  rw [hrt] at HR
  clear hrt hrl hF hC hT hfs hts hto hfc
  unfold Dg.v dgV dgL
  unfold dgV dgL at HR
  unfold v64 q64 at HC HT
  go_enter Tryd.func25, Tryd.ntmps25
  go_upto_region 3 with (first | (go_at_call 49; refine (HR.out _).mono ?_; rintro e w1 ⟨rfl, hb⟩; have hrow := Hd.mk (show w1.heap[w.heap.size + 1]? = some (.cells row0 28 (0, 0)) from Ext.blk hb (heap_new _ _ (World.size_alloc _ _))); have Hrd := Hd.mk (Ext.blk hb (Ext.blk (Ext.alloc (Ext.refl _) _) (heap_alloc_new _ _)))))
  refine wp_region_x (DgC (· = w.heap.size + 1) w1 w.heap.size x n r) false (by kernel_rfl) (by kernel_rfl) (DgC.of Hrd.out (by omega) _ (Exts.drew (Exts.refl _))) ?_
  (repeat (first
     | (refine wpX_skip rfl ?_; (try simp only [Act.put, List.setIfInBounds_toArray, List.set_cons_zero, List.set_cons_succ]))
     | (apply wpX_still; exact rfl; exact rfl; (rintro w' ⟨hw', f0, f1, f2, f3, f4, f5⟩; go_simp; first | done | exact rfl); (try simp only [Act.put, List.setIfInBounds_toArray, List.set_cons_zero, List.set_cons_succ]))))
  (refine wpX_busy rfl rfl ?_; go_simp; go_at_call 44; refine (HF.out _).mono ?_; rintro e wa ⟨rfl, hba⟩; refine ⟨_, rfl, DgC.of Hrd.out (by omega) _ (Ext.exts (by repeat (first | exact Ext.refl _ | assumption | apply Ext.alloc | apply Ext.drew | apply Ext.drewN | apply Ext.bytes | apply Ext.iter | refine Ext.setCell ?_ (by simp; omega) _ | refine Ext.trans ?_ (by assumption)))), ?_⟩; (try simp only [Act.put, List.setIfInBounds_toArray, List.set_cons_zero, List.set_cons_succ]))
  (repeat (first
     | (refine wpX_skip rfl ?_; (try simp only [Act.put, List.setIfInBounds_toArray, List.set_cons_zero, List.set_cons_succ]))
     | (apply wpX_still; exact rfl; exact rfl; (rintro w' ⟨hw', f0, f1, f2, f3, f4, f5⟩; go_simp; first | done | exact rfl); (try simp only [Act.put, List.setIfInBounds_toArray, List.set_cons_zero, List.set_cons_succ]))))
  (refine wpX_busy rfl rfl ?_; go_simp; go_at_call 42; refine (HC.out _).mono ?_; rintro e wb ⟨rfl, hbb⟩; refine ⟨_, rfl, DgC.of Hrd.out (by omega) _ (Ext.exts (by repeat (first | exact Ext.refl _ | assumption | apply Ext.alloc | apply Ext.drew | apply Ext.drewN | apply Ext.bytes | apply Ext.iter | refine Ext.setCell ?_ (by simp; omega) _ | refine Ext.trans ?_ (by assumption)))), ?_⟩; (try simp only [Act.put, List.setIfInBounds_toArray, List.set_cons_zero, List.set_cons_succ]))
  (repeat (first
     | (refine wpX_skip rfl ?_; (try simp only [Act.put, List.setIfInBounds_toArray, List.set_cons_zero, List.set_cons_succ]))
     | (apply wpX_still; exact rfl; exact rfl; (rintro w' ⟨hw', f0, f1, f2, f3, f4, f5⟩; go_simp; first | done | exact rfl); (try simp only [Act.put, List.setIfInBounds_toArray, List.set_cons_zero, List.set_cons_succ]))))
  (refine wpX_busy rfl rfl ?_; go_simp; go_at_call 41; refine (HT.out _).mono ?_; rintro e wc ⟨rfl, hbc⟩; refine ⟨_, rfl, DgC.of Hrd.out (by omega) _ (Ext.exts (by repeat (first | exact Ext.refl _ | assumption | apply Ext.alloc | apply Ext.drew | apply Ext.drewN | apply Ext.bytes | apply Ext.iter | refine Ext.setCell ?_ (by simp; omega) _ | refine Ext.trans ?_ (by assumption)))), ?_⟩; (try simp only [Act.put, List.setIfInBounds_toArray, List.set_cons_zero, List.set_cons_succ]))
  (repeat (first
     | (refine wpX_skip rfl ?_; (try simp only [Act.put, List.setIfInBounds_toArray, List.set_cons_zero, List.set_cons_succ]))
     | (apply wpX_still; exact rfl; exact rfl; (rintro w' ⟨hw', f0, f1, f2, f3, f4, f5⟩; go_simp; first | done | exact rfl); (try simp only [Act.put, List.setIfInBounds_toArray, List.set_cons_zero, List.set_cons_succ]))))
  have hEb : Ext w1 wc := (by repeat (first | exact Ext.refl _ | assumption | apply Ext.alloc | apply Ext.drew | apply Ext.drewN | apply Ext.bytes | apply Ext.iter | refine Ext.setCell ?_ (by simp; omega) _ | refine Ext.trans ?_ (by assumption)))
  refine wpX_busy rfl rfl (busy_store_row _ _ _ rfl (w.heap.size + 1) T rfl rfl _ _ (Ext.blk hEb hrow.out) (by rw [Hts.out]; kernel_rfl) (by rw [Hts.out]; rfl) Hto.out (DgC.of Hrd.out (by omega) _ (Exts.setRow (S := (· = w.heap.size + 1)) (Ext.exts hEb) (.inl rfl) _)) ?_)
  simp only [Act.put]
  (repeat (first
     | (refine wpX_skip rfl ?_; (try simp only [Act.put, List.setIfInBounds_toArray, List.set_cons_zero, List.set_cons_succ]))
     | (apply wpX_still; exact rfl; exact rfl; (rintro w' ⟨hw', f0, f1, f2, f3, f4, f5⟩; go_simp; first | done | exact rfl); (try simp only [Act.put, List.setIfInBounds_toArray, List.set_cons_zero, List.set_cons_succ]))))
  refine wpX_end ?_
  go_wp2
  refine bodyPost_ret (results_row_tmp Tryd.results25 _ _ (w.heap.size + 1) _ _ _ _ (.int .i64 0) rfl (setRow_heap _ _ _ _ _ _ (Ext.blk hEb hrow.out)) Tryd.underlying28 rfl (by rw [Hts.out]; kernel_rfl) rfl) rfl ?_
  exact ⟨by first | (rw [HM.out]; done) | (rw [HM.out]; rfl), Ext.setRow (by repeat (first | exact Ext.refl _ | assumption | apply Ext.alloc | apply Ext.drew | apply Ext.drewN | apply Ext.bytes | apply Ext.iter | refine Ext.setCell ?_ (by simp; omega) _ | refine Ext.trans ?_ (by assumption))) (by omega) _⟩

def sumS (s : ByteArray) : Array Value × Int := if 65536 < s.size then (row0, 3) else (trow (digS (fin s s.size) begin4) 16, 0)
set_option maxHeartbeats 2000000 in
set_option maxRecDepth 100000 in
theorem sumR_c (s : ByteArray) (w : World) : Calls Tryd.prog 14 #[.string s] w (Ret w (.tuple #[.agg (sumS s).1, .int .i64 (sumS s).2])) := by
  by_cases hlen : 65536 < s.size
  · have HM := Hd.mk (show sumS s = (row0, 3) from if_pos hlen)
    have hli : (65536 : Int) < s.size := by omega
    go_enter Tryd.func14, Tryd.ntmps14
    go_wp2
    refine bodyPost_ret (v := .tuple #[.agg row0, .int .i64 3]) (by simp [results, Tryd.results14, go_sem, row0]) rfl ⟨by rw [HM.out], (by repeat (first | exact Ext.refl _ | assumption | apply Ext.alloc | apply Ext.drew | apply Ext.drewN | apply Ext.bytes | apply Ext.iter | refine Ext.setCell ?_ (by simp; omega) _ | refine Ext.trans ?_ (by assumption)))⟩
  · have HM := Hd.mk (show sumS s = (trow (digS (fin s s.size) begin4) 16, 0) from if_neg hlen)
    have hF := endedR_c s (by omega) s.size (by omega)
    have hfs := fin_size s s.size
    have hfc : finC s.size < 64 := by unfold finC; omega
    have hC := changedR_c begin4 begin4_U (fin s s.size) (by omega)
    have hU : (digS (fin s s.size) begin4).U := digS_U begin4_U
    change ∀ w, Calls _ _ _ w (Ret w (v64 (digS (fin s s.size) begin4))) at hC
    have hT := toldR_c (digS (fin s s.size) begin4) hU
    generalize digS (fin s s.size) begin4 = y at *
    generalize fin s s.size = z at *
    have HF := Hd.mk hF
    have HC := Hd.mk hC
    have HT := Hd.mk hT
    have HB := Hd.mk beginR_c
    have hts := trow_size y 16
    have hto := trow_one y 16
    generalize trow y 16 = T at *
    have Hts := Hd.mk hts
    have Hto := Hd.mk hto
    clear hF hC hT hfs hts hto hfc
    unfold v64 q64 at HC HT HB
    go_enter Tryd.func14, Tryd.ntmps14
    go_wp2_with (first | (go_at_call 43; refine (HB.out _).mono ?_; rintro e w1 ⟨rfl, hb⟩; have hrow := Hd.mk (show w1.heap[w.heap.size]? = some (.cells row0 28 (0, 0)) from Ext.blk hb (heap_alloc_new _ _))) | (go_at_call 44; refine (HF.out _).mono ?_; rintro e wa ⟨rfl, hba⟩) | (go_at_call 42; refine (HC.out _).mono ?_; rintro e wb ⟨rfl, hbb⟩) | (go_at_call 41; refine (HT.out _).mono ?_; rintro e wc ⟨rfl, hbc⟩) | (refine wpList_store_row rfl _ _ _ rfl w.heap.size T rfl rfl _ _ (Ext.blk hbc (Ext.blk hbb (Ext.blk hba hrow.out))) (by rw [Hts.out]; kernel_rfl) (by rw [Hts.out]; rfl) Hto.out ?_))
    refine bodyPost_ret (results_row_tmp Tryd.results14 _ _ w.heap.size _ _ _ _ (.int .i64 0) rfl (setRow_heap _ _ _ _ _ _ (Ext.blk hbc (Ext.blk hbb (Ext.blk hba hrow.out)))) Tryd.underlying28 rfl (by rw [Hts.out]; kernel_rfl) rfl) rfl ?_
    exact ⟨by first | (rw [HM.out]; done) | (rw [HM.out]; rfl), Ext.setRow (by repeat (first | exact Ext.refl _ | assumption | apply Ext.alloc | apply Ext.drew | apply Ext.drewN | apply Ext.bytes | apply Ext.iter | refine Ext.setCell ?_ (by simp; omega) _ | refine Ext.trans ?_ (by assumption))) (by omega) _⟩
end Go.Proofs.YtimecmleaeimkaaDoor
