/- The reference's Block. -/
import Derived.Test.YtimecmleaeimkaaDoorDigT
import Derived.Outline
namespace Go.Proofs.YtimecmleaeimkaaDoor
open Go.RowKit
set_option linter.unusedVariables false
/-- A word of which k octets of the block have come. -/
def pw (s : ByteArray) (k j : Nat) : Int :=
  (if 4 * j < k then byteAt s (4 * j) else 0) + (if 4 * j + 1 < k then byteAt s (4 * j + 1) * 256 else 0) + (if 4 * j + 2 < k then byteAt s (4 * j + 2) * 65536 else 0) + (if 4 * j + 3 < k then byteAt s (4 * j + 3) * 16777216 else 0)
theorem pw_all (s : ByteArray) (k j : Nat) (h : 4 * j + 4 ≤ k) : pw s k j = wd s 0 j := by
  unfold pw wd rd
  rw [if_pos (by omega), if_pos (by omega), if_pos (by omega), if_pos (by omega)]
  simp only [Nat.zero_add]
theorem pw_other (s : ByteArray) (k j : Nat) (h : j ≠ k / 4) : pw s (k + 1) j = pw s k j := by
  have e : ∀ i, i < 4 → ((4 * j + i < k + 1) ↔ (4 * j + i < k)) := fun i hi => by omega
  unfold pw
  have e0 := e 0 (by omega)
  have e1 := e 1 (by omega)
  have e2 := e 2 (by omega)
  have e3 := e 3 (by omega)
  simp only [Nat.add_zero] at e0
  simp only [e0, e1, e2, e3]
theorem pw_this (s : ByteArray) (k j r : Nat) (hk : k = 4 * j + r) (hr : r < 4) : pw s (k + 1) j = pw s k j + byteAt s k * 256 ^ r := by
  subst hk
  unfold pw
  match r, hr with
  | 0, _ => rw [if_pos (by omega), if_neg (by omega), if_neg (by omega), if_neg (by omega), if_neg (by omega), if_neg (by omega), if_neg (by omega), if_neg (by omega)]; simp
  | 1, _ => rw [if_pos (by omega), if_pos (by omega), if_neg (by omega), if_neg (by omega), if_pos (by omega), if_neg (by omega), if_neg (by omega), if_neg (by omega)]; simp
  | 2, _ => rw [if_pos (by omega), if_pos (by omega), if_pos (by omega), if_neg (by omega), if_pos (by omega), if_pos (by omega), if_neg (by omega), if_neg (by omega)]; simp
  | 3, _ => rw [if_pos (by omega), if_pos (by omega), if_pos (by omega), if_pos (by omega), if_pos (by omega), if_pos (by omega), if_pos (by omega), if_neg (by omega)]; simp
  | n + 4, h => omega
theorem pw_bd (s : ByteArray) (k j : Nat) : 0 ≤ pw s k j ∧ pw s k j < 4294967296 := by
  have b : ∀ (i : Nat) (m : Int) (c : Prop) [Decidable c], 0 < m → 0 ≤ (if c then byteAt s i * m else 0) ∧ (if c then byteAt s i * m else 0) ≤ 255 * m := fun i m c _ hm => by
    have := byteAt_bd s i
    split
    · exact ⟨Int.mul_nonneg this.1 (by omega), Int.mul_le_mul_of_nonneg_right (by omega) (by omega)⟩
    · exact ⟨by omega, by omega⟩
  have b0 := b (4 * j) 1 (4 * j < k) (by omega)
  have b1 := b (4 * j + 1) 256 (4 * j + 1 < k) (by omega)
  have b2 := b (4 * j + 2) 65536 (4 * j + 2 < k) (by omega)
  have b3 := b (4 * j + 3) 16777216 (4 * j + 3 < k) (by omega)
  simp only [Int.mul_one] at b0
  unfold pw
  omega
def prow (s : ByteArray) (k : Nat) : Array Value := ((List.range 16).map fun j => Value.int .i64 (pw s k j)).toArray
theorem prow_at (s : ByteArray) (k j : Nat) (h : j < 16) : (prow s k)[j]? = some (.int .i64 (pw s k j)) := by
  unfold prow
  rw [List.getElem?_toArray, List.getElem?_map, List.getElem?_range h]
  rfl
theorem prow_next (s : ByteArray) (k j : Nat) (h : j < 16) (hj : j = k / 4) : ((prow s k).toList.take j ++ [Value.int .i64 (pw s (k + 1) j)] ++ (prow s k).toList.drop (j + 1)).toArray = prow s (k + 1) := by
  unfold prow
  congr 1
  apply List.ext_getElem?
  intro i
  simp only [List.append_assoc, List.singleton_append]
  rcases Nat.lt_trichotomy i j with hi | hi | hi
  · rw [List.getElem?_append_left (by simp; omega), List.getElem?_take_of_lt hi, List.getElem?_map, List.getElem?_map, List.getElem?_range (by omega)]
    simp only [Option.map_some]
    rw [pw_other s k i (by omega)]
  · subst hi
    rw [List.getElem?_append_right (by simp; omega)]
    simp only [List.length_take, List.length_map, List.length_range, Nat.min_eq_left (by omega : i ≤ 16), Nat.sub_self, List.getElem?_cons_zero, List.getElem?_map, List.getElem?_range h, Option.map_some]
  · rw [List.getElem?_append_right (by simp; omega)]
    simp only [List.length_take, List.length_map, List.length_range, Nat.min_eq_left (by omega : j ≤ 16)]
    obtain ⟨d, rfl⟩ : ∃ d, i = j + 1 + d := ⟨i - (j + 1), by omega⟩
    rw [show j + 1 + d - j = d + 1 from by omega, List.getElem?_cons_succ, List.getElem?_drop, List.getElem?_map, List.getElem?_map]
    by_cases hd : j + 1 + d < 16
    · rw [List.getElem?_range hd]
      simp only [Option.map_some]
      rw [pw_other s k _ (by omega)]
    · rw [List.getElem?_eq_none (by simp; omega)]
      rfl
theorem prow_size (s : ByteArray) (k : Nat) : (prow s k).size = 16 := by unfold prow; simp
theorem prow_0 (s : ByteArray) : prow s 0 = #[.int .i64 0, .int .i64 0, .int .i64 0, .int .i64 0, .int .i64 0, .int .i64 0, .int .i64 0, .int .i64 0, .int .i64 0, .int .i64 0, .int .i64 0, .int .i64 0, .int .i64 0, .int .i64 0, .int .i64 0, .int .i64 0] := by
  have : ∀ j, pw s 0 j = 0 := fun j => by unfold pw; simp
  unfold prow
  simp only [this]
  rfl
theorem kcells64_at (i : Nat) (h : i < 64) : (kcells .i64)[i]? = some (.int .i64 (K i)) := by
  have hl : ktab.length = 64 := by decide +kernel
  unfold kcells K
  rw [List.getElem?_toArray, List.getElem?_map, List.getD_eq_getElem?_getD, List.getElem?_eq_getElem (by omega)]
  rfl
theorem heap_new (w : World) (o : Obj) {n : Nat} (h : w.heap.size = n) : (w.alloc o).heap[n]? = some o := h ▸ heap_alloc_new w o
theorem row_frozen {w : World} {g : Nat} {cs : Array Value} {t : TypeId} (h : w.heap[g]? = some (.cells cs t (0, 0))) (j : Nat) : w.frozen? ⟨g, j, none⟩ = false := by simp [World.frozen?, h]
def v64 (x : Q4) : Value := q64 x.a x.b x.c x.d

theorem pv (b P P' m e : Int) (he : e = m) (hb : 0 ≤ b ∧ b < 256) (hP' : 0 ≤ P' ∧ P' < 4294967296) (hP : 0 ≤ P ∧ P < 4294967296) (h : P' = P + b * m) (hm : 0 ≤ m ∧ m ≤ 16777216) :
    IntKind.i64.wrap (P + IntKind.i64.wrap (b * e)) = P' := by
  subst he
  have b1 : 0 ≤ b * e := Int.mul_nonneg hb.1 hm.1
  have b2 : b * e ≤ 255 * 16777216 := Int.mul_le_mul (by omega) hm.2 hm.1 (by omega)
  rw [IntWalk.i64_in (b * e) (by omega), h]
  exact IntWalk.i64_in _ (by omega)
def btab : Array Value := #[.int .i64 7, .int .i64 12, .int .i64 17, .int .i64 22, .int .i64 5, .int .i64 9, .int .i64 14, .int .i64 20, .int .i64 4, .int .i64 11, .int .i64 16, .int .i64 23, .int .i64 6, .int .i64 10, .int .i64 15, .int .i64 21]
theorem btab_at (k p r : Nat) (hk : k < 64) (hp : k / 16 = p) (hr : k % 4 = r) : btab[p * 4 + r]? = some (.int .i64 (byT k)) := by
  have h : ∀ n : Fin 64, byT n.1 = byL.getD (n.1 / 16 * 4 + n.1 % 4) 0 := by decide +kernel
  have h1 := h ⟨k, hk⟩
  simp only [hp, hr] at h1
  rw [h1]
  have h2 : ∀ p r : Fin 4, ([7, 12, 17, 22, 5, 9, 14, 20, 4, 11, 16, 23, 6, 10, 15, 21] : List Int)[p.1 * 4 + r.1]? = some (byL.getD (p.1 * 4 + r.1) 0) := by decide +kernel
  have h3 := h2 ⟨p, by omega⟩ ⟨r, by omega⟩
  have e : btab = (([7, 12, 17, 22, 5, 9, 14, 20, 4, 11, 16, 23, 6, 10, 15, 21] : List Int).map (Value.int .i64)).toArray := rfl
  rw [e, List.getElem?_toArray, List.getElem?_map, h3]
  rfl
theorem rotl_bd (x s : Int) (hx : U x) (hs : byS s) : 0 ≤ rotl x s ∧ rotl x s < 8589934592 := by
  unfold U at hx
  unfold rotl
  have h1 := Int.emod_nonneg (x * 2 ^ s.toNat) (show (4294967296 : Int) ≠ 0 by decide)
  have h2 := Int.emod_lt_of_pos (x * 2 ^ s.toNat) (show (0 : Int) < 4294967296 by decide)
  have h3 : x / 2 ^ (32 - s.toNat) ≤ x := Int.ediv_le_self _ hx.1
  have h4 : 0 ≤ x / 2 ^ (32 - s.toNat) := Int.ediv_nonneg hx.1 (Int.pow_nonneg (by decide))
  omega
def PwC (wr : World) (BW j : Nat) (v : Int) (w' : World) : Prop := Ext wr w' ∧ w'.cell? ⟨BW, j, none⟩ = some (.int .i64 v)
theorem PwC.of {wr : World} {BW j : Nat} {v : Int} (h : wr.cell? ⟨BW, j, none⟩ = some (.int .i64 v)) : ∀ w', Ext wr w' → PwC wr BW j v w' := fun w' hw => ⟨hw, Ext.cell hw h⟩
theorem run_byte64 (s : ByteArray) (k : Nat) (h : k < s.size) (v : Int) (hv : byteAt s k = v) (w : World) : (Instr.index 9 (.string s) (.int .i64 k)).run Tryd.prog w = .ok (.int .u8 v) w := by
  rw [← hv]; exact run_byte s k h w
attribute [local go_sem] q32 q64
set_option maxHeartbeats 4000000 in
set_option maxRecDepth 100000 in
theorem blockR_c (x : Q4) (hx : x.U) (s : ByteArray) (hs : s.size = 64) (w : World) :
    Calls Tryd.prog 84 #[v64 x, .string s] w (Ret w (v64 (blk (wd s 0) x))) := by
  unfold v64 q64
  go_enter Tryd.func84, Tryd.ntmps84
  go_wp2
  refine wp_name fun Y0 hY0 => ?_
  have hE : Ext w Y0 := by rw [hY0.out]; exact (by repeat (first | exact Ext.refl _ | assumption | apply Ext.alloc | apply Ext.drew | apply Ext.drewN | apply Ext.bytes | apply Ext.iter | refine Ext.setCell ?_ (by simp; omega) _ | refine Ext.trans ?_ (by assumption)))
  have h0 : Y0.heap[w.heap.size]? = some (.cells #[.int .i64 x.a, .int .i64 x.b, .int .i64 x.c, .int .i64 x.d] 39 (0, 0)) := by rw [hY0.out]; exact Ext.blk (Ext.alloc (Ext.alloc (Ext.refl _) _) _) (heap_alloc_new _ _)
  have h2 : Y0.heap[w.heap.size + 1 + 1]? = some (.cells (prow s 0) 147 (0, 0)) := by rw [hY0.out, prow_0]; exact heap_new _ _ (by simp)
  have H1 := Hd.mk (show Y0.heap[w.heap.size + 1]? = some (.cells #[.int .i64 0, .int .i64 0, .int .i64 0, .int .i64 0] 39 (0, 0)) by rw [hY0.out]; exact Ext.blk (Ext.alloc (Ext.refl _) _) (heap_new _ _ (by simp)))
  have H0 := Hd.mk h0
  have H2 := Hd.mk h2
  clear h0 h2 hY0
  go_loopw [6] (fun i wr => ∃ k : Nat, k ≤ 64 ∧ i = .int .i64 k ∧ Exts (· = w.heap.size + 1 + 1) Y0 wr ∧ Hd (wr.heap[w.heap.size + 1 + 1]? = some (.cells (prow s k) 147 (0, 0)))) (fun i _ => 64 - (intOf i).toNat)
  case atStart => exact ⟨0, by omega, rfl, Exts.refl _, H2⟩
  case round =>
    obtain ⟨k, hk, rfl, hEk, hrow⟩ := hrel
    by_cases hlt : k < 64
    · have hlti : (k : Int) < 64 := by omega
      obtain ⟨j, ej⟩ : ∃ j, k / 4 = j := ⟨_, rfl⟩
      obtain ⟨r, er⟩ : ∃ r, k % 4 = r := ⟨_, rfl⟩
      have hj : j < 16 := by omega
      have hji : (j : Int) < 16 := by omega
      have hkr : k = 4 * j + r := by omega
      have hr : r < 4 := by omega
      have q1 : (k : Int).tdiv 4 = (j : Int) := by rw [Int.tdiv_eq_ediv_of_nonneg (by omega)]; omega
      have q2 : IntKind.i64.wrap (j : Int) = (j : Int) := IntWalk.i64_in _ (by omega)
      have q3 : (k : Int).tmod 4 = (r : Int) := by rw [Int.tmod_eq_emod_of_nonneg (by omega)]; omega
      have hp := pw_this s k j r hkr hr
      have hb := byteAt_bd s k
      have hP := pw_bd s k j
      have hP' := pw_bd s (k + 1) j
      have hrun := run_byte64 s k (by omega)
      have hnext := Hd.mk (prow_next s k j hj ej.symm)
      have hcell := row_cell hrow.out (prow_at s k j hj)
      generalize byteAt s k = b at *
      generalize pw s k j = P at *
      generalize pw s (k + 1) j = P' at *
      have hrb := hrun b rfl
      have q4 : IntKind.i64.wrap b = b := IntWalk.i64_in _ (by omega)
      have q5 : IntKind.i64.wrap P' = P' := IntWalk.i64_in _ (by omega)
      clear hrun hkr ej er
      have Hhp := Hd.mk hp
      have Hrow := hrow
      clear hrow hp
      obtain rfl | rfl | rfl | rfl : r = 0 ∨ r = 1 ∨ r = 2 ∨ r = 3 := by omega
      all_goals
        go_upto_region 5 with fail
        refine wp_region_last (PwC wr (w.heap.size + 1 + 1) j P) (by kernel_rfl) (by kernel_rfl) (by kernel_rfl) (by kernel_rfl) (PwC.of hcell _ (by repeat (first | exact Ext.refl _ | assumption | apply Ext.alloc | apply Ext.drew | apply Ext.drewN | apply Ext.bytes | apply Ext.iter | refine Ext.setCell ?_ (by simp; omega) _ | refine Ext.trans ?_ (by assumption)))) ?_
        (repeat (first
           | (refine wpLast_skip rfl ?_; (try simp only [Act.put, List.setIfInBounds_toArray, List.set_cons_zero, List.set_cons_succ]))
           | (apply wpLast_still; exact rfl; exact rfl; (rintro w' ⟨hw', f0⟩; go_simp; first | done | exact rfl); (try simp only [Act.put, List.setIfInBounds_toArray, List.set_cons_zero, List.set_cons_succ]))))
        refine wpLast_last rfl rfl (busy_store_cell _ _ _ rfl (w.heap.size + 1 + 1) j (.int .i64 P') rfl (congrArg (Value.int .i64) (pv b P P' _ _ (by decide +kernel) hb hP' hP Hhp.out (by decide +kernel))) _ _ (show wr.drew.heap[w.heap.size + 1 + 1]? = _ from Hrow.out) (by rw [prow_size]; exact hj) (by kernel_rfl) rfl rfl trivial ?_)
        refine wpLast_nil fun wf hwf => ?_
        have hEf : Exts (· = w.heap.size + 1 + 1) Y0 wf := by rw [hwf.out]; exact (hEk.drew).setRow (.inl rfl) _
        have hrf := Hd.mk (show wf.heap[w.heap.size + 1 + 1]? = some (.cells (prow s (k + 1)) 147 (0, 0)) by rw [hwf.out, ← hnext.out]; exact setRow_heap _ _ _ _ _ _ (show wr.drew.heap[w.heap.size + 1 + 1]? = _ from Hrow.out))
        clear hwf
        go_wp2
        go_roundw
        case rel => exact ⟨k + 1, by omega, by go_num, hEf, hrf⟩
        case measure => simp [intOf]; omega
    have h64 : k = 64 := by omega
    subst h64
    have hX1 : Ext Y0 wr → True := fun _ => trivial
    clear hlt hk hX1
    have hEw : Ext w wr := Exts.ext (Exts.trans (Ext.exts hE) hEk) (fun j (hj : j = w.heap.size + 1 + 1) => by omega)
    have h0 := hEk.blk H0.out (by omega)
    have c0 := row_cell h0 (j := 0) (v := .int .i64 x.a) rfl
    have c1 := row_cell h0 (j := 1) (v := .int .i64 x.b) rfl
    have c2 := row_cell h0 (j := 2) (v := .int .i64 x.c) rfl
    have c3 := row_cell h0 (j := 3) (v := .int .i64 x.d) rfl
    have H0' := Hd.mk h0
    have H1' := Hd.mk (hEk.blk H1.out (by omega))
    clear h0 H0 H1 H2 hEk
    go_upto_region 7 with fail
    refine wp_name fun Y1 hY1 => ?_
    have hE1 : Ext wr Y1 := by rw [hY1.out]; exact (by repeat (first | exact Ext.refl _ | assumption | apply Ext.alloc | apply Ext.drew | apply Ext.drewN | apply Ext.bytes | apply Ext.iter | refine Ext.setCell ?_ (by simp; omega) _ | refine Ext.trans ?_ (by assumption)))
    have HT := Hd.mk (show Y1.heap[wr.heap.size]? = some (.cells btab 148 (0, 0)) by rw [hY1.out]; exact heap_alloc_new _ _)
    have HW := Hd.mk (Ext.blk hE1 hrow.out)
    have H0 := Hd.mk (Ext.blk hE1 H0'.out)
    have H1 := Hd.mk (Ext.blk hE1 H1'.out)
    have hEy : Ext w Y1 := Ext.trans hEw hE1
    clear c0 c1 c2 c3 H0' hrow hY1
    refine wp_region_seq (fun w' => Ext Y1 w' ∧ w'.cell? ⟨w.heap.size, 0, none⟩ = some (.int .i64 x.a) ∧ w'.cell? ⟨w.heap.size, 1, none⟩ = some (.int .i64 x.b) ∧ w'.cell? ⟨w.heap.size, 2, none⟩ = some (.int .i64 x.c) ∧ w'.cell? ⟨w.heap.size, 3, none⟩ = some (.int .i64 x.d)) (by kernel_rfl) (by kernel_rfl) (by kernel_rfl) ⟨Ext.drew (Ext.refl _), row_cell H0.out rfl, row_cell H0.out rfl, row_cell H0.out rfl, row_cell H0.out rfl⟩ ?_
    (repeat (first
       | (refine wpSeq_skip rfl ?_; (try simp only [Act.put, List.setIfInBounds_toArray, List.set_cons_zero, List.set_cons_succ]))
       | (apply wpSeq_still; exact rfl; exact rfl; (rintro w' ⟨hw', f0, f1, f2, f3⟩; go_simp; first | done | exact rfl); (try simp only [Act.put, List.setIfInBounds_toArray, List.set_cons_zero, List.set_cons_succ]))))
    refine wpSeq_nil ?_
    intro _
    go_wp2_with (first | (go_at_call 106; refine (constantsR_c _).mono ?_; rintro e w8 ⟨rfl, hb8⟩) | (refine wpList_store_row rfl _ _ _ rfl w8.heap.size (kcells .i64) rfl (by kernel_rfl) _ _ (heap_alloc_new _ _) (by kernel_rfl) (by kernel_rfl) (by kernel_rfl) ?_))
    refine wp_name fun Z hZ => ?_
    have hb8' : Ext Y1 w8 := Ext.trans (Ext.drew (Ext.refl _)) hb8
    have hEZ : Ext Y1 Z := by rw [hZ.out]; exact Ext.setRow (Ext.alloc hb8' _) (Ext.size hb8') _
    have HK := Hd.mk (show Z.heap[w8.heap.size]? = some (.cells (kcells .i64) 149 (0, 0)) by rw [hZ.out]; exact setRow_heap _ _ _ _ _ _ (heap_alloc_new _ _))
    have HTz := Hd.mk (Ext.blk hEZ HT.out)
    have HWz := Hd.mk (Ext.blk hEZ HW.out)
    have H0z := Hd.mk (Ext.blk hEZ H0.out)
    have H1z := Hd.mk (Ext.blk hEZ H1.out)
    have hEwz : Ext w Z := Ext.trans hEy hEZ
    clear hZ HT HW H0 hb8 hb8' hE1 hEy hEZ hEw hE
    have hXX : ∀ j, j < 16 → pw s 64 j = wd s 0 j := fun j hj => pw_all s 64 j (by omega)
    have HXX := Hd.mk hXX
    clear hXX
    generalize wd s 0 = X at *
    go_loopw [8, 9, 10, 11, 13] (fun va vb vc vd vi wr2 => ∃ k : Nat, k ≤ 64 ∧ vi = .int .i64 k ∧ va = .int .i64 (stps X k x).a ∧ vb = .int .i64 (stps X k x).b ∧ vc = .int .i64 (stps X k x).c ∧ vd = .int .i64 (stps X k x).d ∧ Ext Z wr2) (fun _ _ _ _ vi _ => 64 - (intOf vi).toNat)
    case atStart => exact ⟨0, by omega, rfl, rfl, rfl, rfl, rfl, Ext.refl _⟩
    case round =>
      obtain ⟨k, hk, rfl, rfl, rfl, rfl, rfl, hEk⟩ := hrel
      by_cases hlt : k < 64
      · have hlti : (k : Int) < 64 := by omega
        have hyU : (stps X k x).U := stps_U hx
        have Hs := Hd.mk (show stps X (k + 1) x = stp X k (stps X k x) from rfl)
        have hS := stepR_c k hlt _ _ _ hyU.b hyU.c hyU.d
        generalize stps X k x = y at *
        have hm : wi k < 16 := wi_lt k hlt
        have hbS : byS (byT k) := byT_S k hlt
        have hcK := Ext.cell hEk (row_cell HK.out (kcells64_at k hlt))
        have hcW := Ext.cell hEk (row_cell HWz.out (prow_at s 64 (wi k) hm))
        rw [HXX.out _ hm] at hcW
        obtain ⟨p, ep⟩ : ∃ p, k / 16 = p := ⟨_, rfl⟩
        obtain ⟨r, er⟩ : ∃ r, k % 4 = r := ⟨_, rfl⟩
        have hcT := Ext.cell hEk (row_cell HTz.out (btab_at k p r hlt ep er))
        have q1 : (k : Int).tdiv 16 = (p : Int) := by rw [Int.tdiv_eq_ediv_of_nonneg (by omega)]; omega
        have q2 : (k : Int).tmod 4 = (r : Int) := by rw [Int.tmod_eq_emod_of_nonneg (by omega)]; omega
        have q3 : (k : Int) / 16 = (p : Int) := by omega
        have q4 : (k : Int) % 4 = (r : Int) := by omega
        have hp : p < 4 := by omega
        have hr : r < 4 := by omega
        have hpi : (p : Int) < 4 := by omega
        have hri : (r : Int) < 4 := by omega
        obtain ⟨F, eF⟩ : ∃ v, Fi k y.b y.c y.d = v := ⟨_, rfl⟩
        obtain ⟨m, em⟩ : ∃ m, wi k = m := ⟨_, rfl⟩
        obtain ⟨xm, ex⟩ : ∃ v, X m = v := ⟨_, rfl⟩
        obtain ⟨kn, ek⟩ : ∃ v, K k = v := ⟨_, rfl⟩
        obtain ⟨bn, eb⟩ : ∃ v, byT k = v := ⟨_, rfl⟩
        rw [em] at hm hcW
        rw [ex] at hcW
        rw [ek] at hcK
        rw [eb] at hcT
        have hFU : U F := by rw [← eF]; exact Fi_U k hyU.b hyU.c hyU.d
        have hkU : U kn := by rw [← ek]; exact K_U k
        have hxU : U xm := by rw [← ex, ← HXX.out m hm]; exact pw_bd s 64 m
        have hmi : (m : Int) < 16 := by omega
        simp only [eF, em] at hS
        have HS := Hd.mk hS
        obtain ⟨s4, e4⟩ : ∃ v, (y.a + F + kn + xm) % 4294967296 = v := ⟨_, rfl⟩
        have hs4 : U s4 := by rw [← e4]; exact U_mod _
        obtain ⟨ρ, eρ⟩ : ∃ v, rotl s4 bn = v := ⟨_, rfl⟩
        have HR := Hd.mk (show ∀ w', Calls Tryd.prog 108 #[.int .i64 s4, .int .i64 bn] w' (Ret w' (.int .i64 ρ)) from fun w' => by rw [← eρ]; exact rotR_c _ _ hs4 (eb ▸ hbS) w')
        have hρU : 0 ≤ ρ ∧ ρ < 8589934592 := by rw [← eρ]; exact rotl_bd _ _ hs4 (eb ▸ hbS)
        have ua := hyU.a
        have ub := hyU.b
        unfold U at ua ub hFU hkU hxU
        obtain ⟨s1, e1⟩ : ∃ v, y.a + F = v := ⟨_, rfl⟩
        obtain ⟨s2, e2⟩ : ∃ v, s1 + kn = v := ⟨_, rfl⟩
        obtain ⟨s3, e3⟩ : ∃ v, s2 + xm = v := ⟨_, rfl⟩
        have g1 : IntKind.i64.wrap s1 = s1 := IntWalk.i64_in _ (by omega)
        have g2 : IntKind.i64.wrap s2 = s2 := IntWalk.i64_in _ (by omega)
        have g3 : IntKind.i64.wrap s3 = s3 := IntWalk.i64_in _ (by omega)
        have g4 : s3.tmod 4294967296 = s4 := by rw [Int.tmod_eq_emod_of_nonneg (by omega)]; omega
        obtain ⟨b', eb'⟩ : ∃ v, (y.b + ρ) % 4294967296 = v := ⟨_, rfl⟩
        have Hst := Hd.mk (show stp X k y = ⟨y.d, b', y.b, y.c⟩ by unfold stp; rw [eF, ek, em, ex, eb, e4, eρ, eb'])
        have Heb := Hd.mk eb'
        have HC := Hd.mk (show ∀ w', Ext wr w' → Ext wr w' ∧ w'.cell? ⟨w8.heap.size, k, none⟩ = some (.int .i64 kn) ∧ w'.cell? ⟨w.heap.size + 1 + 1, m, none⟩ = some (.int .i64 xm) from fun w' h => ⟨h, Ext.cell h hcK, Ext.cell h hcW⟩)
        clear eF em ex ek eb e4 eρ eb' ep er hS hbS hcK hcW
        go_upto_region 13 with (go_at_call 107; refine (HS.out _).mono ?_; rintro e wa ⟨rfl, ha⟩)
        refine wp_region_seq (fun w' => Ext wr w' ∧ w'.cell? ⟨w8.heap.size, k, none⟩ = some (.int .i64 kn) ∧ w'.cell? ⟨w.heap.size + 1 + 1, m, none⟩ = some (.int .i64 xm)) (by kernel_rfl) (by kernel_rfl) (by kernel_rfl) (HC.out _ (by repeat (first | exact Ext.refl _ | assumption | apply Ext.alloc | apply Ext.drew | apply Ext.drewN | apply Ext.bytes | apply Ext.iter | refine Ext.setCell ?_ (by simp; omega) _ | refine Ext.trans ?_ (by assumption)))) ?_
        (repeat (first
           | (refine wpSeq_skip rfl ?_; (try simp only [Act.put, List.setIfInBounds_toArray, List.set_cons_zero, List.set_cons_succ]))
           | (apply wpSeq_still; exact rfl; exact rfl; (rintro w' ⟨hw', f0, f1⟩; go_simp; first | done | exact rfl); (try simp only [Act.put, List.setIfInBounds_toArray, List.set_cons_zero, List.set_cons_succ]))))
        refine wpSeq_nil ?_
        intro _
        have hcT' := Ext.cell ha hcT
        go_wp2_with (go_at_call 108; refine (HR.out _).mono ?_; rintro e wb ⟨rfl, hb⟩)
        have hEc : Ext Z wb := (by repeat (first | exact Ext.refl _ | assumption | apply Ext.alloc | apply Ext.drew | apply Ext.drewN | apply Ext.bytes | apply Ext.iter | refine Ext.setCell ?_ (by simp; omega) _ | refine Ext.trans ?_ (by assumption)))
        go_roundw
        case rel => exact ⟨k + 1, by omega, by go_num, by rw [Hs.out, Hst.out], by rw [Hs.out, Hst.out]; exact congrArg _ Heb.out, by rw [Hs.out, Hst.out], by rw [Hs.out, Hst.out], hEc⟩
        case measure => simp [intOf]; omega
      have h64 : k = 64 := by omega
      subst h64
      have h0 := Ext.blk hEk H0z.out
      have c0 := row_cell h0 (j := 0) (v := .int .i64 x.a) rfl
      have c1 := row_cell h0 (j := 1) (v := .int .i64 x.b) rfl
      have c2 := row_cell h0 (j := 2) (v := .int .i64 x.c) rfl
      have c3 := row_cell h0 (j := 3) (v := .int .i64 x.d) rfl
      have h1 := Ext.blk hEk H1z.out
      have Hfin := Hd.mk (show blk X x = add4 x (stps X 64 x) from rfl)
      have hyU : (stps X 64 x).U := stps_U hx
      generalize stps X 64 x = y at *
      have H1 := Hd.mk h1
      clear h0 h1
      obtain ⟨xa, xb, xc, xd⟩ := hx
      obtain ⟨ya, yb, yc, yd⟩ := hyU
      unfold U at xa xb xc xd ya yb yc yd
      have d0 := row_cell H1.out (j := 0) (v := .int .i64 0) rfl
      have d1 := row_cell H1.out (j := 1) (v := .int .i64 0) rfl
      have d2 := row_cell H1.out (j := 2) (v := .int .i64 0) rfl
      have d3 := row_cell H1.out (j := 3) (v := .int .i64 0) rfl
      have fr := row_frozen H1.out
      go_wp2
      refine bodyPost_ret (v := v64 ⟨(x.a + y.a) % 4294967296, (x.b + y.b) % 4294967296, (x.c + y.c) % 4294967296, (x.d + y.d) % 4294967296⟩) (by simp [results, Tryd.results84, go_sem, v64, d0, d1, d2, d3]) rfl ?_
      exact ⟨by rw [Hfin.out]; rfl, Ext.setCell (Ext.setCell (Ext.setCell (Ext.setCell (Ext.trans hEwz hEk) (by simp) _) (by simp) _) (by simp) _) (by simp) _⟩
end Go.Proofs.YtimecmleaeimkaaDoor
