/- Octets as a row, and as text: the reference's. -/
import Derived.Test.YtimecmleaeimkaaDoorDigN
namespace Go.Proofs.YtimecmleaeimkaaDoor
open Go.RowKit
set_option linter.unusedVariables false

/-- Octets as the cells of an array. -/
def ob (s : ByteArray) : Array Value := ((List.range s.size).map fun i => Value.int .u8 (byteAt s i)).toArray
theorem ob_size (s : ByteArray) : (ob s).size = s.size := by unfold ob; simp
theorem ob_one (s : ByteArray) : (ob s).all (·.oneCell') = true := by unfold ob; simp [Value.oneCell']
theorem ob_at (s : ByteArray) (j : Nat) (h : j < s.size) : (ob s)[j]? = some (.int .u8 (byteAt s j)) := by
  unfold ob
  rw [List.getElem?_toArray, List.getElem?_map, List.getElem?_range h]
  rfl
/-- The digit of a number under 16. -/
def hd (q : Int) : Int := if q < 10 then 48 + q else 87 + q
def hexC : ByteArray := ⟨#[48, 49, 50, 51, 52, 53, 54, 55, 56, 57, 97, 98, 99, 100, 101, 102]⟩
theorem hexC_at : ∀ q : Fin 16, byteAt hexC q.val = hd q.val := by decide
theorem hexC_cut : ∀ q : Fin 16, hexC.extract q.val (q.val + 1) = strOfNums [hd q.val] := by decide
/-- The digits of the first k octets. -/
def hexL (s : ByteArray) : Nat → List Int
  | 0 => []
  | k + 1 => hexL s k ++ [hd (byteAt s k / 16), hd (byteAt s k % 16)]
theorem hexL_length (s : ByteArray) : ∀ k, (hexL s k).length = 2 * k
  | 0 => rfl
  | k + 1 => by simp [hexL, hexL_length s k]; omega
def hexS (s : ByteArray) : ByteArray := strOfNums (hexL s 16)
theorem hexS_size (s : ByteArray) : (hexS s).size = 32 := by unfold hexS; rw [strOfNums_size, hexL_length]
theorem strOfNums_append (a b : List Int) : strOfNums (a ++ b) = strOfNums a ++ strOfNums b := by
  apply ByteArray.ext
  apply Array.ext'
  simp [strOfNums]
theorem hexL_step (s : ByteArray) (k : Nat) (p r : Nat) (hp : byteAt s k / 16 = (p : Int)) (hr : byteAt s k % 16 = (r : Int)) : strOfNums (hexL s k) ++ hexC.extract p (p + 1) ++ hexC.extract r (r + 1) = strOfNums (hexL s (k + 1)) := by
  have hb := byteAt_bd s k
  have h1 := hexC_cut ⟨p, by omega⟩
  have h2 := hexC_cut ⟨r, by omega⟩
  simp only at h1 h2
  rw [h1, h2, ← strOfNums_append, ← strOfNums_append, hexL, hp, hr, List.append_assoc]
  rfl
set_option maxHeartbeats 1000000 in
set_option maxRecDepth 100000 in
theorem hexR_c (s : ByteArray) (hs : s.size = 16) (w : World) : Calls Tryd.prog 15 #[.agg (ob s)] w (Ret w (.string (hexS s))) := by
  have hos := ob_size s
  have hrw := ob_at s
  have Hon := Hd.mk (ob_one s)
  rw [hs] at hos hrw
  have Hhs := Hd.mk (show hexS s = strOfNums (hexL s 16) from rfl)
  obtain ⟨A, eA⟩ : ∃ A, ob s = A := ⟨_, rfl⟩
  rw [eA] at hos hrw Hon ⊢
  clear eA
  go_enter Tryd.func15, Tryd.ntmps15
  go_wp2
  refine wp_name fun Y0 hY0 => ?_
  have hE : Ext w Y0 := by rw [hY0.out]; exact (by repeat (first | exact Ext.refl _ | assumption | apply Ext.alloc | apply Ext.drew | apply Ext.drewN | apply Ext.bytes | apply Ext.iter | refine Ext.setCell ?_ (by simp; omega) _ | refine Ext.trans ?_ (by assumption)))
  have H0 := Hd.mk (show Y0.heap[w.heap.size]? = some (.cells A 28 (0, 0)) by rw [hY0.out]; exact heap_alloc_new _ _)
  clear hY0
  go_loopw [4, 5] (fun vo vi wr => ∃ k : Nat, k ≤ 16 ∧ vo = .string (strOfNums (hexL s k)) ∧ vi = .int .i64 k ∧ Ext Y0 wr) (fun _ i _ => 16 - (intOf i).toNat)
  case atStart => exact ⟨0, by omega, rfl, rfl, Ext.refl _⟩
  case round =>
    obtain ⟨k, hk, rfl, rfl, hEk⟩ := hrel
    by_cases hlt : k < 16
    · have hlti : (k : Int) < 16 := by omega
      have hb := byteAt_bd s k
      have hc0 := row_cell (Ext.blk hEk H0.out) (hrw k hlt)
      obtain ⟨p, ep⟩ : ∃ p : Nat, byteAt s k / 16 = (p : Int) := ⟨(byteAt s k / 16).toNat, by omega⟩
      obtain ⟨r, er⟩ : ∃ r : Nat, byteAt s k % 16 = (r : Int) := ⟨(byteAt s k % 16).toNat, by omega⟩
      have Hst := Hd.mk (hexL_step s k p r ep er)
      have hls : (strOfNums (hexL s k)).size = 2 * k := by rw [strOfNums_size, hexL_length]
      have hx1 : (hexC.extract p (p + 1)).size = 1 := by rw [ByteArray.size_extract]; show min (p + 1) 16 - p = 1; omega
      have hx2 : (hexC.extract r (r + 1)).size = 1 := by rw [ByteArray.size_extract]; show min (r + 1) 16 - r = 1; omega
      generalize byteAt s k = b at *
      generalize strOfNums (hexL s k) = out at *
      obtain ⟨out', eo'⟩ : ∃ x, strOfNums (hexL s (k + 1)) = x := ⟨_, rfl⟩
      rw [eo'] at Hst
      have Heo := Hd.mk eo'
      clear eo'
      have q1 : b.tdiv 16 = (p : Int) := by rw [Int.tdiv_eq_ediv_of_nonneg hb.1]; omega
      have q2 : b.tmod 16 = (r : Int) := by rw [Int.tmod_eq_emod_of_nonneg hb.1]; omega
      have q3 : IntKind.u8.wrap (p : Int) = (p : Int) := by rw [IntKind.wrap_u8]; omega
      have q4 : IntKind.u8.wrap (r : Int) = (r : Int) := by rw [IntKind.wrap_u8]; omega
      have m1 : 0 ≤ (p : Int) + 1 ∧ (p : Int) + 1 ≤ 16 := by omega
      have m2 : 0 ≤ (r : Int) + 1 ∧ (r : Int) + 1 ≤ 16 := by omega
      have m3 : (p : Int) ≤ (p : Int) + 1 := by omega
      have m4 : (r : Int) ≤ (r : Int) + 1 := by omega
      have q5 : IntKind.u8.wrap ((p : Int) + 1) = (p : Int) + 1 := by rw [IntKind.wrap_u8]; omega
      have q6 : IntKind.u8.wrap ((r : Int) + 1) = (r : Int) + 1 := by rw [IntKind.wrap_u8]; omega
      obtain ⟨X1, e1⟩ : ∃ x, hexC.extract p (p + 1) = x := ⟨_, rfl⟩
      obtain ⟨X2, e2⟩ : ∃ x, hexC.extract r (r + 1) = x := ⟨_, rfl⟩
      rw [e1] at hx1
      rw [e2] at hx2
      rw [e1, e2] at Hst
      have g1 : ¬ 9223372036854775807 < out.size + X1.size := by omega
      have g2 : ¬ 9223372036854775807 < out.size + X1.size + X2.size := by omega
      unfold hexC at e1 e2
      clear hls hx1 hx2
      go_upto_region 2 with fail
      refine wp_region_x (Ext wr) false (by kernel_rfl) (by kernel_rfl) (by repeat (first | exact Ext.refl _ | assumption | apply Ext.alloc | apply Ext.drew | apply Ext.drewN | apply Ext.bytes | apply Ext.iter | refine Ext.setCell ?_ (by simp; omega) _ | refine Ext.trans ?_ (by assumption))) ?_
      have hcc : ∀ w', Ext wr w' → w'.cell? ⟨w.heap.size, k, none⟩ = some (.int .u8 b) := fun w' h => Ext.cell h hc0
      (repeat (first
       | (refine wpX_skip rfl ?_; (try simp only [Act.put, List.setIfInBounds_toArray, List.set_cons_zero, List.set_cons_succ]))
       | (apply wpX_still; exact rfl; exact rfl; (intro w' hw'; have hcw := hcc w' hw'; go_simp; first | done | exact rfl); (try simp only [Act.put, List.setIfInBounds_toArray, List.set_cons_zero, List.set_cons_succ]))))
      refine wpX_nil fun wf hwf => ?_
      have hEf : Ext Y0 wf := by rw [hwf.out]; exact (by repeat (first | exact Ext.refl _ | assumption | apply Ext.alloc | apply Ext.drew | apply Ext.drewN | apply Ext.bytes | apply Ext.iter | refine Ext.setCell ?_ (by simp; omega) _ | refine Ext.trans ?_ (by assumption)))
      clear hwf
      go_wp2
      go_roundw
      case rel => exact ⟨k + 1, by omega, by rw [Hst.out, Heo.out], by go_num, hEf⟩
      case measure => simp [intOf]; omega
    · obtain rfl : k = 16 := by omega
      go_wp2
      go_ret
      exact ⟨by rw [Hhs.out]; rfl, (by repeat (first | exact Ext.refl _ | assumption | apply Ext.alloc | apply Ext.drew | apply Ext.drewN | apply Ext.bytes | apply Ext.iter | refine Ext.setCell ?_ (by simp; omega) _ | refine Ext.trans ?_ (by assumption)))⟩

/-- The value of a digit, or -1. -/
def dv (c : Int) : Int := if 48 ≤ c ∧ c ≤ 57 then c - 48 else if 97 ≤ c ∧ c ≤ 102 then c - 87 else -1
set_option maxHeartbeats 1000000 in
theorem digit_c (c : Int) (hc : 0 ≤ c ∧ c < 256) (w : World) : Calls Tryd.prog 46 #[.int .u8 c] w (Ret w (.int .i64 (dv c))) := by
  have hd := Hd.mk (show dv c = if 48 ≤ c ∧ c ≤ 57 then c - 48 else if 97 ≤ c ∧ c ≤ 102 then c - 87 else -1 from rfl)
  go_enter Tryd.func46, Tryd.ntmps46
  by_cases h1 : 48 ≤ c
  · by_cases h2 : c ≤ 57
    · have q1 : IntKind.u8.wrap (c - 48) = c - 48 := by rw [IntKind.wrap_u8]; omega
      go_wp2
      go_ret
      exact ⟨by rw [hd.out, if_pos (by omega)]; rfl, (by repeat (first | exact Ext.refl _ | assumption | apply Ext.alloc | apply Ext.drew | apply Ext.drewN | apply Ext.bytes | apply Ext.iter | refine Ext.setCell ?_ (by simp; omega) _ | refine Ext.trans ?_ (by assumption)))⟩
    · by_cases h3 : 97 ≤ c
      · by_cases h4 : c ≤ 102
        · have q1 : IntKind.u8.wrap (c - 97) = c - 97 := by rw [IntKind.wrap_u8]; omega
          go_wp2
          go_ret
          exact ⟨by rw [hd.out, if_neg (by omega), if_pos (by omega), show c - 87 = c - 97 + 10 from by omega]; rfl, (by repeat (first | exact Ext.refl _ | assumption | apply Ext.alloc | apply Ext.drew | apply Ext.drewN | apply Ext.bytes | apply Ext.iter | refine Ext.setCell ?_ (by simp; omega) _ | refine Ext.trans ?_ (by assumption)))⟩
        · go_wp2
          go_ret
          exact ⟨by rw [hd.out, if_neg (by omega), if_neg (by omega)]; rfl, (by repeat (first | exact Ext.refl _ | assumption | apply Ext.alloc | apply Ext.drew | apply Ext.drewN | apply Ext.bytes | apply Ext.iter | refine Ext.setCell ?_ (by simp; omega) _ | refine Ext.trans ?_ (by assumption)))⟩
      · go_wp2
        go_ret
        exact ⟨by rw [hd.out, if_neg (by omega), if_neg (by omega)]; rfl, (by repeat (first | exact Ext.refl _ | assumption | apply Ext.alloc | apply Ext.drew | apply Ext.drewN | apply Ext.bytes | apply Ext.iter | refine Ext.setCell ?_ (by simp; omega) _ | refine Ext.trans ?_ (by assumption)))⟩
  · have h3 : ¬ 97 ≤ c := by omega
    go_wp2
    go_ret
    exact ⟨by rw [hd.out, if_neg (by omega), if_neg (by omega)]; rfl, (by repeat (first | exact Ext.refl _ | assumption | apply Ext.alloc | apply Ext.drew | apply Ext.drewN | apply Ext.bytes | apply Ext.iter | refine Ext.setCell ?_ (by simp; omega) _ | refine Ext.trans ?_ (by assumption)))⟩

/-- Sixteen octets by a rule. -/
def rowF (f : Nat → Int) : Array Value := ((List.range 16).map fun j => Value.int .u8 (f j)).toArray
theorem rowF_size (f : Nat → Int) : (rowF f).size = 16 := by unfold rowF; simp
theorem rowF_one (f : Nat → Int) : (rowF f).all (·.oneCell') = true := by unfold rowF; simp [Value.oneCell']
theorem rowF_at (f : Nat → Int) (j : Nat) (h : j < 16) : (rowF f)[j]? = some (.int .u8 (f j)) := by
  unfold rowF
  rw [List.getElem?_toArray, List.getElem?_map, List.getElem?_range h]
  rfl
theorem rowF_ext {f g : Nat → Int} (h : ∀ j, j < 16 → f j = g j) : rowF f = rowF g := by
  apply Array.ext_getElem?
  intro i
  by_cases hi : i < 16
  · rw [rowF_at f i hi, rowF_at g i hi, h i hi]
  · rw [Array.getElem?_eq_none (by rw [rowF_size]; omega), Array.getElem?_eq_none (by rw [rowF_size]; omega)]
theorem rowF_set (f g : Nat → Int) (k : Nat) (hk : k < 16) (v : Int) (hg : g k = v) (h : ∀ j, j < 16 → j ≠ k → g j = f j) : (rowF f).setIfInBounds k (.int .u8 v) = rowF g := by
  apply Array.ext_getElem?
  intro i
  rw [Array.getElem?_setIfInBounds, rowF_size]
  by_cases hi : i < 16
  · by_cases hik : k = i
    · subst hik; rw [if_pos rfl, if_pos hi, rowF_at g k hi, hg]
    · rw [if_neg hik, rowF_at f i hi, rowF_at g i hi, h i hi (fun e => hik e.symm)]
  · rw [if_neg (by omega), Array.getElem?_eq_none (by rw [rowF_size]; omega), Array.getElem?_eq_none (by rw [rowF_size]; omega)]
theorem rowF_zero : rowF (fun _ => 0) = row0 := rfl
theorem ob_rowF (s : ByteArray) (hs : s.size = 16) : ob s = rowF (byteAt s) := by unfold ob rowF; rw [hs]

/-- Octet j of a text. -/
def ub (t : ByteArray) (j : Nat) : Int := 16 * dv (byteAt t (2 * j)) + dv (byteAt t (2 * j + 1))
/-- The first n characters are digits. -/
def digs (t : ByteArray) : Nat → Bool
  | 0 => true
  | n + 1 => digs t n && decide (0 ≤ dv (byteAt t n))
theorem digs_false (t : ByteArray) : ∀ (n k : Nat), k < n → ¬ 0 ≤ dv (byteAt t k) → digs t n = false
  | 0, k, h, _ => by omega
  | n + 1, k, h, hk => by
    unfold digs
    by_cases hkn : k = n
    · subst hkn; rw [decide_eq_false hk, Bool.and_false]
    · rw [digs_false t n k (by omega) hk, Bool.false_and]
theorem digs_true {t : ByteArray} : ∀ {n : Nat}, digs t n = true → ∀ k, k < n → 0 ≤ dv (byteAt t k)
  | 0, _, k, h => by omega
  | n + 1, h, k, hk => by
    unfold digs at h
    rw [Bool.and_eq_true, decide_eq_true_eq] at h
    by_cases hkn : k = n
    · subst hkn; exact h.2
    · exact digs_true h.1 k (by omega)
theorem dv_bd (c : Int) : -1 ≤ dv c ∧ dv c < 16 := by unfold dv; (repeat split) <;> omega
/-- What a text is read as. -/
def unhS (t : ByteArray) : Array Value × Int := if t.size = 32 ∧ digs t 32 = true then (rowF (ub t), 0) else (row0, 5)
/-- The first k octets, and zeros. -/
def ubk (t : ByteArray) (k : Nat) (j : Nat) : Int := if j < k then ub t j else 0

theorem ubk_other (t : ByteArray) (j k : Nat) (h : j ≠ k) : ubk t (k + 1) j = ubk t k j := by
  unfold ubk
  by_cases hjk : j < k
  · rw [if_pos (by omega), if_pos hjk]
  · rw [if_neg (by omega), if_neg hjk]
set_option maxHeartbeats 2000000 in
set_option maxRecDepth 100000 in
theorem unhexR_c (t : ByteArray) (w : World) : Calls Tryd.prog 17 #[.string t] w (Ret w (.tuple #[.agg (unhS t).1, .int .i64 (unhS t).2])) := by
  by_cases hsz : t.size = 32
  · have Hun := Hd.mk (show unhS t = if digs t 32 = true then (rowF (ub t), 0) else (row0, 5) by unfold unhS; simp only [hsz, true_and])
    have hszi : (t.size : Int) = 32 := by omega
    go_enter Tryd.func17, Tryd.ntmps17
    go_wp2
    refine wp_name fun Y0 hY0 => ?_
    have hE : Ext w Y0 := by rw [hY0.out]; exact (by repeat (first | exact Ext.refl _ | assumption | apply Ext.alloc | apply Ext.drew | apply Ext.drewN | apply Ext.bytes | apply Ext.iter | refine Ext.setCell ?_ (by simp; omega) _ | refine Ext.trans ?_ (by assumption)))
    have H0 := Hd.mk (show Y0.heap[w.heap.size]? = some (.cells row0 28 (0, 0)) by rw [hY0.out]; exact Ext.blk (Ext.alloc (Ext.refl _) _) (heap_alloc_new _ _))
    have H1 := Hd.mk (show Y0.heap[w.heap.size + 1]? = some (.cells (rowF (ubk t 0)) 28 (0, 0)) by rw [hY0.out]; exact heap_new _ _ (by simp))
    clear hY0
    go_loopw [5] (fun vi wr => ∃ k : Nat, k ≤ 16 ∧ digs t (2 * k) = true ∧ vi = .int .i64 k ∧ Exts (· = w.heap.size + 1) Y0 wr ∧ Hd (wr.heap[w.heap.size + 1]? = some (.cells (rowF (ubk t k)) 28 (0, 0)))) (fun i _ => 16 - (intOf i).toNat)
    case atStart => exact ⟨0, by omega, rfl, rfl, Exts.refl _, H1⟩
    case round =>
      obtain ⟨k, hk, hdk, rfl, hEk, hrow⟩ := hrel
      by_cases hlt : k < 16
      · have hlti : (k : Int) < 16 := by omega
        have x1 : ∀ w, (Instr.index 9 (.string t) (.int .i64 (2 * k))).run Tryd.prog w = .ok (.int .u8 (byteAt t (2 * k))) w := fun w => run_byte t (2 * k) (by omega) w
        have x2 : ∀ w, (Instr.index 9 (.string t) (.int .i64 (2 * k + 1))).run Tryd.prog w = .ok (.int .u8 (byteAt t (2 * k + 1))) w := fun w => run_byte t (2 * k + 1) (by omega) w
        have hb1 := byteAt_bd t (2 * k)
        have hb2 := byteAt_bd t (2 * k + 1)
        have hub := Hd.mk (show ub t k = 16 * dv (byteAt t (2 * k)) + dv (byteAt t (2 * k + 1)) from rfl)
        have hdg := Hd.mk (show digs t (2 * (k + 1)) = (digs t (2 * k) && decide (0 ≤ dv (byteAt t (2 * k))) && decide (0 ≤ dv (byteAt t (2 * k + 1)))) from rfl)
        have hf1 := Hd.mk (digs_false t 32 (2 * k) (by omega))
        have hf2 := Hd.mk (digs_false t 32 (2 * k + 1) (by omega))
        have HD1 := Hd.mk (digit_c (byteAt t (2 * k)) hb1)
        have HD2 := Hd.mk (digit_c (byteAt t (2 * k + 1)) hb2)
        have hd1 := dv_bd (byteAt t (2 * k))
        have hd2 := dv_bd (byteAt t (2 * k + 1))
        obtain ⟨c1, ec1⟩ : ∃ c, byteAt t (2 * k) = c := ⟨_, rfl⟩
        obtain ⟨c2, ec2⟩ : ∃ c, byteAt t (2 * k + 1) = c := ⟨_, rfl⟩
        rw [ec1] at x1 hb1 hub hdg hf1 HD1 hd1
        rw [ec2] at x2 hb2 hub hdg hf2 HD2 hd2
        clear ec1 ec2
        generalize dv c1 = d1 at *
        generalize dv c2 = d2 at *
        have q1 : IntKind.i64.wrap (2 * (k : Int)) = 2 * (k : Int) := by rw [IntKind.wrap_i64]; omega
        have q2 : IntKind.i64.wrap (2 * (k : Int) + 1) = 2 * (k : Int) + 1 := by rw [IntKind.wrap_i64]; omega
        go_upto_region 2 with fail
        refine wp_region_x (Ext wr) false (by kernel_rfl) (by kernel_rfl) (by repeat (first | exact Ext.refl _ | assumption | apply Ext.alloc | apply Ext.drew | apply Ext.drewN | apply Ext.bytes | apply Ext.iter | refine Ext.setCell ?_ (by simp; omega) _ | refine Ext.trans ?_ (by assumption))) ?_
        (repeat (first
           | (refine wpX_skip rfl ?_; (try simp only [Act.put, List.setIfInBounds_toArray, List.set_cons_zero, List.set_cons_succ]))
           | (apply wpX_still; exact rfl; exact rfl; (rintro w' hw'; go_simp; first | done | exact rfl); (try simp only [Act.put, List.setIfInBounds_toArray, List.set_cons_zero, List.set_cons_succ]))))
        (refine wpX_busy rfl rfl ?_; go_simp; go_at_call 46; refine (HD1.out _).mono ?_; rintro e w1 ⟨rfl, hba⟩; refine ⟨_, rfl, (by repeat (first | exact Ext.refl _ | assumption | apply Ext.alloc | apply Ext.drew | apply Ext.drewN | apply Ext.bytes | apply Ext.iter | refine Ext.setCell ?_ (by simp; omega) _ | refine Ext.trans ?_ (by assumption))), ?_⟩; (try simp only [Act.put, List.setIfInBounds_toArray, List.set_cons_zero, List.set_cons_succ]))
        (repeat (first
           | (refine wpX_skip rfl ?_; (try simp only [Act.put, List.setIfInBounds_toArray, List.set_cons_zero, List.set_cons_succ]))
           | (apply wpX_still; exact rfl; exact rfl; (rintro w' hw'; go_simp; first | done | exact rfl); (try simp only [Act.put, List.setIfInBounds_toArray, List.set_cons_zero, List.set_cons_succ]))))
        (refine wpX_busy rfl rfl ?_; go_simp; go_at_call 46; refine (HD2.out _).mono ?_; rintro e w2 ⟨rfl, hbb⟩; refine ⟨_, rfl, (by repeat (first | exact Ext.refl _ | assumption | apply Ext.alloc | apply Ext.drew | apply Ext.drewN | apply Ext.bytes | apply Ext.iter | refine Ext.setCell ?_ (by simp; omega) _ | refine Ext.trans ?_ (by assumption))), ?_⟩; (try simp only [Act.put, List.setIfInBounds_toArray, List.set_cons_zero, List.set_cons_succ]))
        (repeat (first
           | (refine wpX_skip rfl ?_; (try simp only [Act.put, List.setIfInBounds_toArray, List.set_cons_zero, List.set_cons_succ]))
           | (apply wpX_still; exact rfl; exact rfl; (rintro w' hw'; go_simp; first | done | exact rfl); (try simp only [Act.put, List.setIfInBounds_toArray, List.set_cons_zero, List.set_cons_succ]))))
        refine wpX_nil fun wf hwf => ?_
        have hEf : Ext wr wf := by rw [hwf.out]; exact (by repeat (first | exact Ext.refl _ | assumption | apply Ext.alloc | apply Ext.drew | apply Ext.drewN | apply Ext.bytes | apply Ext.iter | refine Ext.setCell ?_ (by simp; omega) _ | refine Ext.trans ?_ (by assumption)))
        clear hwf
        have hbk := hrow.out
        have hbk := Ext.blk hEf hbk
        by_cases hd1n : d1 < 0
        · have HM := Hd.mk (show unhS t = (row0, 5) by rw [Hun.out, if_neg (by rw [hf1.out (by omega)]; decide)])
          have hz := Hd.mk (Ext.blk hEf (hEk.blk H0.out (by omega)))
          go_wp2_with (refine wpList_store_row rfl _ _ _ rfl w.heap.size row0 rfl rfl _ _ hz.out (by kernel_rfl) rfl row0_one ?_)
          refine bodyPost_ret (results_row_tmp Tryd.results17 _ _ w.heap.size _ _ _ _ (.int .i64 5) rfl (setRow_heap _ _ _ _ _ _ hz.out) Tryd.underlying28 rfl (by kernel_rfl) rfl) rfl ?_
          have hEw : Ext w wr := Exts.ext (Exts.trans (Ext.exts hE) hEk) (fun j (hj : j = w.heap.size + 1) => by omega)
          exact ⟨by rw [HM.out], Ext.setRow (Ext.trans hEw hEf) (Nat.le_refl _) _⟩
        by_cases hd2n : d2 < 0
        · have HM := Hd.mk (show unhS t = (row0, 5) by rw [Hun.out, if_neg (by rw [hf2.out (by omega)]; decide)])
          have hz := Hd.mk (Ext.blk hEf (hEk.blk H0.out (by omega)))
          go_wp2_with (refine wpList_store_row rfl _ _ _ rfl w.heap.size row0 rfl rfl _ _ hz.out (by kernel_rfl) rfl row0_one ?_)
          refine bodyPost_ret (results_row_tmp Tryd.results17 _ _ w.heap.size _ _ _ _ (.int .i64 5) rfl (setRow_heap _ _ _ _ _ _ hz.out) Tryd.underlying28 rfl (by kernel_rfl) rfl) rfl ?_
          have hEw : Ext w wr := Exts.ext (Exts.trans (Ext.exts hE) hEk) (fun j (hj : j = w.heap.size + 1) => by omega)
          exact ⟨by rw [HM.out], Ext.setRow (Ext.trans hEw hEf) (Nat.le_refl _) _⟩
        have q3 : IntKind.i64.wrap (16 * d1) = 16 * d1 := by rw [IntKind.wrap_i64]; omega
        have q4 : IntKind.i64.wrap (16 * d1 + d2) = 16 * d1 + d2 := by rw [IntKind.wrap_i64]; omega
        have q5 : IntKind.u8.wrap (16 * d1 + d2) = 16 * d1 + d2 := by rw [IntKind.wrap_u8]; omega
        have hbc := row_cell hbk (rowF_at _ k hlt)
        have hbf := row_frozen hbk k
        have Hbk := Hd.mk hbk
        clear hbk
        go_wp2
        have hEf' : Exts (· = w.heap.size + 1) Y0 (wf.setCell ⟨w.heap.size + 1, k, none⟩ (.int .u8 (16 * d1 + d2))) := ((hEk.then hEf)).setCell (.inl rfl) _
        have hrf := Hd.mk (show (wf.setCell ⟨w.heap.size + 1, k, none⟩ (.int .u8 (16 * d1 + d2))).heap[w.heap.size + 1]? = some (.cells (rowF (ubk t (k + 1))) 28 (0, 0)) by
          rw [← rowF_set (ubk t k) (ubk t (k + 1)) k hlt (16 * d1 + d2) (by unfold ubk; rw [if_pos (by omega), hub.out]) (fun j hj hne => ubk_other t j k hne)]
          exact setCell_row Hbk.out _)
        go_roundw
        case rel => exact ⟨k + 1, by omega, by rw [hdg.out, hdk, decide_eq_true (show 0 ≤ d1 by omega), decide_eq_true (show 0 ≤ d2 by omega)]; rfl, by go_num, hEf', hrf⟩
        case measure => simp [intOf]; omega
      · obtain rfl : k = 16 := by omega
        have hdk' : digs t 32 = true := hdk
        have HM := Hd.mk (show unhS t = (rowF (ubk t 16), 0) by rw [Hun.out, if_pos hdk']; exact congrArg (·, 0) (rowF_ext fun j hj => by unfold ubk; rw [if_pos hj]))
        have hts := rowF_size (ubk t 16)
        have hto := rowF_one (ubk t 16)
        generalize rowF (ubk t 16) = T at *
        have Hts := Hd.mk hts
        have Hto := Hd.mk hto
        have Hz := Hd.mk (hEk.blk H0.out (by omega))
        clear hts hto
        go_wp2_with (first | (refine wpList_load_row rfl _ _ rfl (w.heap.size + 1) rfl _ T (0, 0) _ hrow.out Tryd.underlying28 rfl (by rw [Hts.out]; kernel_rfl) ?_) | (refine wpList_store_row rfl _ _ _ rfl w.heap.size T rfl rfl _ _ Hz.out (by rw [Hts.out]; kernel_rfl) (by rw [Hts.out]; rfl) Hto.out ?_))
        refine bodyPost_ret (results_row_tmp Tryd.results17 _ _ w.heap.size _ _ _ _ (.int .i64 0) rfl (setRow_heap _ _ _ _ _ _ Hz.out) Tryd.underlying28 rfl (by rw [Hts.out]; kernel_rfl) rfl) rfl ?_
        have hEw : Ext w wr := Exts.ext (Exts.trans (Ext.exts hE) hEk) (fun j (hj : j = w.heap.size + 1) => by omega)
        exact ⟨by rw [HM.out], Ext.setRow hEw (Nat.le_refl _) _⟩
  · have HM := Hd.mk (show unhS t = (row0, 5) by unfold unhS; rw [if_neg (fun h => hsz h.1)])
    have hne : ((t.size : Int) != 32) = true := bne_iff_ne.2 (by omega)
    go_enter Tryd.func17, Tryd.ntmps17
    have hrow := Hd.mk (show ((w.alloc (.cells row0 28)).alloc (.cells row0 28)).heap[w.heap.size]? = some (.cells row0 28 (0, 0)) from Ext.blk (Ext.alloc (Ext.refl _) _) (heap_alloc_new _ _))
    go_wp2_with (refine wpList_store_row rfl _ _ _ rfl w.heap.size row0 rfl rfl _ _ hrow.out (by kernel_rfl) rfl row0_one ?_)
    refine bodyPost_ret (results_row_tmp Tryd.results17 _ _ w.heap.size _ _ _ _ (.int .i64 5) rfl (setRow_heap _ _ _ _ _ _ hrow.out) Tryd.underlying28 rfl (by kernel_rfl) rfl) rfl ?_
    exact ⟨by rw [HM.out], Ext.setRow (by repeat (first | exact Ext.refl _ | assumption | apply Ext.alloc | apply Ext.drew | apply Ext.drewN | apply Ext.bytes | apply Ext.iter | refine Ext.setCell ?_ (by simp; omega) _ | refine Ext.trans ?_ (by assumption))) (Nat.le_refl _) _⟩
end Go.Proofs.YtimecmleaeimkaaDoor
