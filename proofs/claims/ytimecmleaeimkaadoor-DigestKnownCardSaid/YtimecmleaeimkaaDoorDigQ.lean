/- Package digest: More, Done, Sum. -/
import Derived.Test.YtimecmleaeimkaaDoorDigE
namespace Go.Proofs.YtimecmleaeimkaaDoor
open Go.RowKit
set_option linter.unusedVariables false
attribute [local go_sem] q32 q64
attribute [local go_sem] Oper.semAt_some

theorem calls_of_wp_marks {P : Program} {f : FuncId} {fn : Func} {c : Code} {args : Array Value} {w : World} {R : Ending → World → Prop} (hf : P.funcs[f]? = some fn) (hb : fn.body = some c)
    (h : c.wp P (bodyPostM Fence.wide 5 P fn R) { tmps := args ++ Array.replicate (fn.ntmps - args.size) undef, defers := [] } w) : Calls P f args w R :=
  callsIn_wide.1 (callsIn_of_wp_marks hf hb trivial (wpIn_wide.2 h))

theorem rangeBlocks2 {Q : Exit → Act → World → Prop} {a : Act} {w : World} {p : Tmp} (q : Tmp) {assign body : Code} {gop : Operand} (gr g : Nat) (z : ByteArray) (cs : Nat → Array Value) (tr : TypeId)
    (hg : a.eval gop = .func (.func 90) #[] #[.pointer (some ⟨g, 0, none⟩)]) (hz : z.size ≤ 140737488355328)
    (hcell : w.heap[g]? = some (.cells #[.string z] 9 (0, 0))) (hrow : w.heap[gr]? = some (.cells (cs 0) tr (0, 0))) (hne : gr ≠ g)
    (hassign : ∀ (l : Nat) (x : ByteArray) (W : World) (K : Act → World → Prop), K ⟨(a.tmps.setIfInBounds p (.string x)).setIfInBounds q (.string x), []⟩ W → assign.wpIn (Fence.wide.inRound l) (5 - 1 - 1) Tryd.prog (Exit.then K (fun _ _ _ => False)) { tmps := a.tmps.setIfInBounds p (.string x), defers := [] } W)
    (hbody : ∀ (l k : Nat) (W : World), k < z.size / 64 → Exts (fun j => j = gr ∨ j = g) w W → W.heap[gr]? = some (.cells (cs k) tr (0, 0)) →
      body.wpIn (Fence.wide.inRound l) (5 - 1 - 1) Tryd.prog (fun e _ W' => e = .normal ∧ Exts (· = gr) W W' ∧ W'.heap[gr]? = some (.cells (cs (k + 1)) tr (0, 0))) ⟨(a.tmps.setIfInBounds p (.string (bk z k))).setIfInBounds q (.string (bk z k)), []⟩ W)
    (hdone : ∀ (D : Nat) (W : World), w.heap.size ≤ D → Exts (fun j => j = gr ∨ j = g) w W → W.heap[gr]? = some (.cells (cs (z.size / 64)) tr (0, 0)) → W.heap[D]? = some (.deferred (some [])) →
      Q .normal { a with defers := { target := .collected D, args := #[] } :: a.defers } W) :
    (Code.rangeFunc gop #[p] assign body).wp Tryd.prog Q a w :=
  wpIn_wide.1 (rangeBlocks gr g z cs tr hg hz hcell hrow hne (fun x => ⟨(a.tmps.setIfInBounds p (.string x)).setIfInBounds q (.string x), []⟩) hassign hbody hdone)

/-- The numbers behind k blocks, out of what is left. -/
def ych (z : ByteArray) (x : Q4) : Nat → Q4
  | 0 => x
  | k + 1 => blk (wd (bk z k) 0) (ych z x k)
theorem ych_U {z : ByteArray} {x : Q4} (h : x.U) (k : Nat) : (ych z x k).U := by
  cases k with
  | zero => exact h
  | succ k => exact blk_U _ _
theorem chg_ych (z : ByteArray) (x : Q4) : ∀ (m k : Nat), 64 * (k + m) ≤ z.size → chg (rst z k) m (ych z x k) = ych z x (k + m)
  | 0, k, _ => rfl
  | m + 1, k, h => by
    rw [chg_first (rst z k) m _ (by rw [rst_size]; omega)]
    have := chg_ych z x m (k + 1) (by omega)
    rw [show k + (m + 1) = k + 1 + m from by omega, ← this]
    rfl
theorem ych_all (z : ByteArray) (x : Q4) : ych z x (z.size / 64) = digS z x := by
  have := chg_ych z x (z.size / 64) 0 (by omega)
  rw [Nat.zero_add] at this
  rw [← this]; rfl

theorem Ext.putObj {a b : World} (h : Ext a b) {r : Nat} (hr : a.heap.size ≤ r) (o : Obj) : Ext a (b.putObj r o) :=
  ⟨h.os, h.tape, h.output, by have := Ext.size h; simpa using this, fun k hk => (World.putObj_heap_other (by omega)).trans (h.block k hk)⟩
def MrC (S : Nat → Prop) (wr : World) (B : Nat) (x : Q4) (l : Int) (r : ByteArray) (gr : Nat) (y : Q4) (w' : World) : Prop :=
  DgC S wr B x l r w' ∧ w'.cell? ⟨gr, 0, none⟩ = some (.int .u32 y.a) ∧ w'.cell? ⟨gr, 1, none⟩ = some (.int .u32 y.b) ∧ w'.cell? ⟨gr, 2, none⟩ = some (.int .u32 y.c) ∧ w'.cell? ⟨gr, 3, none⟩ = some (.int .u32 y.d)
theorem MrC.of {S : Nat → Prop} {wr : World} {B : Nat} {x : Q4} {l : Int} {r : ByteArray} {t t' : TypeId} {gr : Nat} {y : Q4} (h : wr.heap[B]? = some (.cells (dgL x l r) t (0, 0))) (hB : ¬ S B)
    (h' : wr.heap[gr]? = some (.cells (q32L y) t' (0, 0))) (hG : ¬ S gr) : ∀ w', Exts S wr w' → MrC S wr B x l r gr y w' := fun w' hw =>
  ⟨DgC.of h hB w' hw, hw.cell (row_cell h' rfl) hG, hw.cell (row_cell h' rfl) hG, hw.cell (row_cell h' rfl) hG, hw.cell (row_cell h' rfl) hG⟩
set_option maxHeartbeats 2000000 in
set_option maxRecDepth 100000 in
theorem moreP_c (d : Dg) (s : ByteArray) (hr : d.r.size ≤ 140737488351232) (hs : s.size ≤ 140737488351232) (w : World) : Calls Tryd.prog 23 #[d.v, .string s] w (Ret w (.tuple #[(moreS d s).1.v, .int .i64 (moreS d s).2])) := by
  obtain ⟨x, l, r⟩ := d
  have hR := checkP_c x l r
  simp only at hr
  have HR := Hd.mk hR
  clear hR
  cases hrt : rightB x l r
  · have HM := Hd.mk (show moreS ⟨x, l, r⟩ s = (.zero, 80) by unfold moreS; rw [if_pos hrt])
    have hc : checkS x l r = 80 := by unfold checkS; rw [hrt]; rfl
    rw [hc] at HR
    clear hrt hc
    unfold Dg.v dgV dgL
    unfold dgV dgL at HR
    go_enter Tryd.func23, Tryd.ntmps23
    go_wp2_with (first | (go_at_call 26; refine (HR.out _).mono ?_; rintro e w1 ⟨rfl, hb⟩; have hrow := Hd.mk (Ext.blk hb (heap_new _ _ (World.size_alloc _ _)))) | (refine wpList_store_row rfl _ _ _ rfl (w.heap.size + 1) dgZ rfl rfl _ _ hrow.out (by kernel_rfl) rfl dgZ_one ?_))
    refine bodyPost_ret (results_row_tmp Tryd.results23 _ _ (w.heap.size + 1) _ _ _ _ (.int .i64 80) rfl (setRow_heap _ _ _ _ _ _ hrow.out) Tryd.underlying41 rfl (by kernel_rfl) rfl) rfl ?_
    exact ⟨by rw [HM.out]; rfl, Ext.setRow (by repeat (first | exact Ext.refl _ | assumption | apply Ext.alloc | apply Ext.drew | apply Ext.drewN | apply Ext.bytes | apply Ext.iter | refine Ext.setCell ?_ (by simp; omega) _ | refine Ext.trans ?_ (by assumption))) (by omega) _⟩
  obtain ⟨hxU, hl0, hl1, hrl⟩ := (rightB_iff x l r).1 hrt
  have hc : checkS x l r = 0 := by unfold checkS; rw [hrt]; rfl
  rw [hc] at HR
  by_cases hlen : 65536 < l + s.size
  · have HM := Hd.mk (show moreS ⟨x, l, r⟩ s = (.zero, 3) by unfold moreS; rw [if_neg (by rw [hrt]; decide), if_pos hlen])
    have hlt : 65536 - l < (s.size : Int) := by omega
    clear hrt hrl hxU hc hlen
    unfold Dg.v dgV dgL
    unfold dgV dgL at HR
    go_enter Tryd.func23, Tryd.ntmps23
    go_wp2_with (first | (go_at_call 26; refine (HR.out _).mono ?_; rintro e w1 ⟨rfl, hb⟩; have hrow := Hd.mk (Ext.blk hb (heap_new _ _ (World.size_alloc _ _))); have hl4 := row_cell (Ext.blk hb (Ext.blk (Ext.alloc (Ext.refl _) _) (heap_alloc_new _ _))) (j := 4) (v := .int .i64 l) rfl) | (refine wpList_store_row rfl _ _ _ rfl (w.heap.size + 1) dgZ rfl rfl _ _ hrow.out (by kernel_rfl) rfl dgZ_one ?_))
    refine bodyPost_ret (results_row_tmp Tryd.results23 _ _ (w.heap.size + 1) _ _ _ _ (.int .i64 3) rfl (setRow_heap _ _ _ _ _ _ hrow.out) Tryd.underlying41 rfl (by kernel_rfl) rfl) rfl ?_
    exact ⟨by rw [HM.out]; rfl, Ext.setRow (by repeat (first | exact Ext.refl _ | assumption | apply Ext.alloc | apply Ext.drew | apply Ext.drewN | apply Ext.bytes | apply Ext.iter | refine Ext.setCell ?_ (by simp; omega) _ | refine Ext.trans ?_ (by assumption))) (by omega) _⟩
  · have hrs : (r ++ s).size = r.size + s.size := ByteArray.size_append
    have hsz : r.size + s.size ≤ 9223372036854775807 := by omega
    have hlt : ¬ 65536 - l < (s.size : Int) := by omega
    have HM := Hd.mk (show moreS ⟨x, l, r⟩ s = (⟨digS (r ++ s) x, l + s.size, tl (r ++ s)⟩, 0) by unfold moreS; rw [if_neg (by rw [hrt]; decide), if_neg hlen]; rfl)
    have htl := Hd.mk (show tl (r ++ s) = (r ++ s).extract (64 * ((r ++ s).size / 64)) (r ++ s).size from rfl)
    have hya := ych_all (r ++ s) x
    have hyU := ych_U (z := r ++ s) hxU
    have hu := used_c x.a x.b x.c x.d
    change ∀ w, Calls _ _ _ w (Ret w (q32 (modQ x).a (modQ x).b (modQ x).c (modQ x).d)) at hu
    rw [modQ_id hxU] at hu
    have HU := Hd.mk hu
    have HxU := Hd.mk hxU
    have Hrs := Hd.mk hrs
    generalize hall : r ++ s = all at *
    have Hya := Hd.mk hya
    have HyU := Hd.mk hyU
    have hle : all.size ≤ 200000 := by omega
    clear hrt hrl hxU hc hlen hrs hya hyU hu
    unfold Dg.v dgV dgL
    unfold dgV dgL at HR
    unfold q32 q64 at HU
    refine calls_of_wp_marks Tryd.func23 rfl ?_
    simp only [Tryd.ntmps23, List.size_toArray, List.length_cons, List.length_nil, Nat.reduceAdd, Nat.reduceSub, Array.replicate_succ, Array.replicate_zero, List.push_toArray, List.append_toArray, List.nil_append, List.cons_append]
    go_wp2_with (first | (go_at_call 26; refine (HR.out _).mono ?_; rintro e w1 ⟨rfl, hb⟩; have hrow := Hd.mk (Ext.blk hb (heap_new _ _ (World.size_alloc _ _))); have hrd := Ext.blk hb (Ext.blk (Ext.alloc (Ext.refl _) _) (heap_alloc_new _ _)); have hl4 := row_cell hrd (j := 4) (v := .int .i64 l) rfl; have hl5 := row_cell hrd (j := 5) (v := .string r) rfl; have hl0' := row_cell hrd (j := 0) (v := .int .i64 x.a) rfl; have hl1' := row_cell hrd (j := 1) (v := .int .i64 x.b) rfl; have hl2' := row_cell hrd (j := 2) (v := .int .i64 x.c) rfl; have hl3' := row_cell hrd (j := 3) (v := .int .i64 x.d) rfl; have Hrd := Hd.mk hrd; clear hrd) | (go_at_call 52; refine (HU.out _).mono ?_; rintro e w2 ⟨rfl, hb2⟩) | (go_at_call 54; refine (blocks_c _ _).mono ?_; rintro e w3 ⟨rfl, rfl⟩))
    refine wp_name fun W hW => ?_
    have hE2 : Ext w w2 := (by repeat (first | exact Ext.refl _ | assumption | apply Ext.alloc | apply Ext.drew | apply Ext.drewN | apply Ext.bytes | apply Ext.iter | refine Ext.setCell ?_ (by simp; omega) _ | refine Ext.trans ?_ (by assumption)))
    have hEW : Ext w2 W := by rw [hW.out]; exact (by repeat (first | exact Ext.refl _ | assumption | apply Ext.alloc | apply Ext.drew | apply Ext.drewN | apply Ext.bytes | apply Ext.iter | refine Ext.setCell ?_ (by simp; omega) _ | refine Ext.trans ?_ (by assumption)))
    have rG := Hd.mk (show W.heap[w2.heap.size]? = some (.cells (q32L x) 90 (0, 0)) by rw [hW.out]; exact Ext.blk (Ext.alloc (Ext.alloc (Ext.refl _) _) _) (heap_alloc_new _ _))
    have rF := Hd.mk (show W.heap[w2.heap.size + 1]? = some (.cells #[.func (.func 53) #[.pointer (some ⟨w2.heap.size, 0, none⟩)] #[]] 91 (0, 0)) by rw [hW.out]; exact Ext.blk (Ext.alloc (Ext.refl _) _) (heap_new _ _ (by simp)))
    have rC := Hd.mk (show W.heap[w2.heap.size + 1 + 1]? = some (.cells #[.string all] 9 (0, 0)) by rw [hW.out]; exact heap_new _ _ (by simp))
    have rD := Hd.mk (Ext.blk hEW (Ext.blk hb2 Hrd.out))
    have rR := Hd.mk (Ext.blk hEW (Ext.blk hb2 hrow.out))
    have s2 : w.heap.size + 1 < w2.heap.size := row_lt (Ext.blk hb2 hrow.out)
    have hEwW : Ext w W := Ext.trans hE2 hEW
    clear hW hl4 hl5 hl0' hl1' hl2' hl3' Hrd hrow hb hb2 hE2 hEW HU HR
    refine rangeBlocks2 10 w2.heap.size (w2.heap.size + 1 + 1) all (fun k => q32L (ych all x k)) 90 rfl (by omega) rC.out rG.out (by omega) ?assign ?body ?done
    case assign =>
      intro l' z W' K hK
      simp only [List.setIfInBounds_toArray, List.set_cons_zero, List.set_cons_succ] at hK ⊢
      gi_wp2
      exact hK
    case body =>
      intro l' k W' hk hE hrow'
      have hf := hE.cell (row_cell rF.out (j := 0) rfl) (by simp)
      have hT := take_c (ych all x k) (HyU.out k) (bk all k) (bk_size all k hk) w2.heap.size 90 W' hrow'
      have HT := Hd.mk hT
      clear hT hrow' hE
      have Hn := Hd.mk (show ych all x (k + 1) = blk (wd (bk all k) 0) (ych all x k) from rfl)
      generalize bk all k = b at *
      simp only [List.setIfInBounds_toArray, List.set_cons_zero, List.set_cons_succ]
      gi_wp2_with (refine ⟨trivial, ?_⟩; gi_at_call 53; refine (CallsIn.inRound l' (callsIn_wide.2 HT.out)).mono ?_; rintro e w4 ⟨⟨v, rfl⟩, hrow4, hE4⟩)
      rw [Hn.out]
    case done =>
      intro D W' hD hE hrow' hK
      have hrow2 := hrow'
      rw [Hya.out] at hrow2
      have hyU : (digS all x).U := digS_U HxU.out
      have hk := kept_c (digS all x).a (digS all x).b (digS all x).c (digS all x).d hyU.a hyU.b hyU.c hyU.d
      have HK := Hd.mk hk
      have HG := Hd.mk hrow2
      have HD := Hd.mk (hE.blk rD.out (by omega))
      have HRw := Hd.mk (hE.blk rR.out (by omega))
      have HKD := Hd.mk hK
      have hEw' : Ext w W' := Exts.ext (Exts.trans (Ext.exts hEwW) hE) (fun j (hj : j = w2.heap.size ∨ j = w2.heap.size + 1 + 1) => by omega)
      have sW : w2.heap.size < W.heap.size := row_lt rG.out
      generalize digS all x = y at *
      clear hrow' hrow2 hk hK hyU rG rF rC rD rR hE hEwW HyU Hya
      unfold q32 q64 at HK
      obtain ⟨m, em⟩ : ∃ m, all.size / 64 = m := ⟨_, rfl⟩
      obtain ⟨kk, ek⟩ : ∃ k, 64 * m = k := ⟨_, rfl⟩
      have q0 : IntKind.i64.wrap (l + (s.size : Int)) = l + (s.size : Int) := IntWalk.i64_in _ (by omega)
      have q1 : (all.size : Int).tdiv 64 = (m : Int) := by rw [Int.tdiv_eq_ediv_of_nonneg (by omega)]; omega
      have q2 : IntKind.i64.wrap (m : Int) = (m : Int) := IntWalk.i64_in _ (by omega)
      have q3 : IntKind.i64.wrap ((m : Int) * 64) = (kk : Int) := by rw [IntWalk.i64_in _ (by omega)]; omega
      have hki : (kk : Int) ≤ all.size := by omega
      have hkn : kk ≤ all.size := by omega
      have Htl := Hd.mk (show tl all = all.extract kk all.size by rw [htl.out, em, ek])
      clear em ek
      go_upto_region 12 with fail
      refine wp_region_x (MrC (· = w.heap.size + 1) W' w.heap.size x l r w2.heap.size y) false (by kernel_rfl) (by kernel_rfl) (MrC.of HD.out (by omega) HG.out (by omega) _ (Exts.drew (Exts.refl _))) ?_
      (repeat (first
         | (refine wpX_skip rfl ?_; (try simp only [Act.put, List.setIfInBounds_toArray, List.set_cons_zero, List.set_cons_succ]))
         | (apply wpX_still; exact rfl; exact rfl; (rintro w' ⟨⟨hw', f0, f1, f2, f3, f4, f5⟩, g0, g1, g2, g3⟩; go_simp; first | done | exact rfl); (try simp only [Act.put, List.setIfInBounds_toArray, List.set_cons_zero, List.set_cons_succ]))))
      (refine wpX_busy rfl rfl ?_; go_simp; go_at_call 50; refine (HK.out _).mono ?_; rintro e wb ⟨rfl, hbb⟩; refine ⟨_, rfl, MrC.of HD.out (by omega) HG.out (by omega) _ (Ext.exts (by repeat (first | exact Ext.refl _ | assumption | apply Ext.alloc | apply Ext.drew | apply Ext.drewN | apply Ext.bytes | apply Ext.iter | refine Ext.setCell ?_ (by simp; omega) _ | refine Ext.trans ?_ (by assumption)))), ?_⟩; (try simp only [Act.put, List.setIfInBounds_toArray, List.set_cons_zero, List.set_cons_succ]))
      (repeat (first
         | (refine wpX_skip rfl ?_; (try simp only [Act.put, List.setIfInBounds_toArray, List.set_cons_zero, List.set_cons_succ]))
         | (apply wpX_still; exact rfl; exact rfl; (rintro w' ⟨⟨hw', f0, f1, f2, f3, f4, f5⟩, g0, g1, g2, g3⟩; go_simp; first | done | exact rfl); (try simp only [Act.put, List.setIfInBounds_toArray, List.set_cons_zero, List.set_cons_succ]))))
      have hEb : Ext W' wb := (by repeat (first | exact Ext.refl _ | assumption | apply Ext.alloc | apply Ext.drew | apply Ext.drewN | apply Ext.bytes | apply Ext.iter | refine Ext.setCell ?_ (by simp; omega) _ | refine Ext.trans ?_ (by assumption)))
      refine wpX_busy rfl rfl (busy_store_row _ _ _ rfl (w.heap.size + 1) (dgL y (l + s.size) (all.extract kk all.size)) rfl rfl _ _ (Ext.blk hEb HRw.out) (by kernel_rfl) rfl (dgL_one _ _ _) (MrC.of HD.out (by omega) HG.out (by omega) _ (Exts.setRow (S := (· = w.heap.size + 1)) (Ext.exts hEb) (.inl rfl) _)) ?_)
      simp only [Act.put]
      (repeat (first
         | (refine wpX_skip rfl ?_; (try simp only [Act.put, List.setIfInBounds_toArray, List.set_cons_zero, List.set_cons_succ]))
         | (apply wpX_still; exact rfl; exact rfl; (rintro w' ⟨⟨hw', f0, f1, f2, f3, f4, f5⟩, g0, g1, g2, g3⟩; go_simp; first | done | exact rfl); (try simp only [Act.put, List.setIfInBounds_toArray, List.set_cons_zero, List.set_cons_succ]))))
      refine wpX_end ?_
      have hKf : (wb.setRow (w.heap.size + 1) (dgL y (l + s.size) (all.extract kk all.size))).heap[D]? = some (.deferred (some [])) := (setRow_other _ _ _ _ (by omega)).trans (Ext.blk hEb HKD.out)
      have hRf := setRow_heap _ _ _ (dgL y (l + s.size) (all.extract kk all.size)) _ _ (Ext.blk hEb HRw.out)
      have HKf := Hd.mk hKf
      have HRf := Hd.mk hRf
      have hEf : Ext w (wb.setRow (w.heap.size + 1) (dgL y (l + s.size) (all.extract kk all.size))) := Ext.setRow (Ext.trans hEw' hEb) (by omega) _
      clear hKf hRf
      generalize wb.setRow (w.heap.size + 1) (dgL y (l + s.size) (all.extract kk all.size)) = wf at *
      go_wp2
      refine ⟨by simp, .inl ⟨_, _, rfl, run_takeDeferred HKf.out, ?_⟩⟩
      have hRf : (wf.putObj D (.deferred none)).heap[w.heap.size + 1]? = _ := (World.putObj_heap_other (by omega)).trans HRf.out
      refine ⟨_, results_row_tmp Tryd.results23 _ _ (w.heap.size + 1) _ _ _ _ (.int .i64 0) rfl hRf Tryd.underlying41 rfl (by kernel_rfl) rfl, ?_⟩
      exact ⟨by rw [HM.out, Htl.out]; rfl, Ext.putObj hEf (by omega) _⟩
end Go.Proofs.YtimecmleaeimkaaDoor
