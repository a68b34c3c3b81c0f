/- Hex and Unhex are each other's inverses: plain. -/
import Derived.Test.YtimecmleaeimkaaDoorDigA
namespace Go.Proofs.YtimecmleaeimkaaDoor
open Go.RowKit
set_option linter.unusedVariables false

theorem strOfNums_at (l : List Int) (k : Nat) (v : Int) (h : l[k]? = some v) (hv : 0 ≤ v ∧ v < 256) : byteAt (strOfNums l) k = v := by
  obtain ⟨hk, he⟩ := List.getElem?_eq_some_iff.1 h
  have hk' : k < (strOfNums l).size := by rw [strOfNums_size]; exact hk
  rw [← byteAt_eq _ k hk']
  have : (strOfNums l)[k]'hk' = UInt8.ofNat v.toNat := by
    show (strOfNums l).data[k]'_ = _
    unfold strOfNums
    show (List.map (fun n => UInt8.ofNat n.toNat) l)[k]'(by rw [List.length_map]; exact hk) = _
    rw [List.getElem_map, he]
  rw [this, UInt8.toNat_ofNat_of_lt' (by show v.toNat < 256; omega)]
  omega
theorem hexL_even (s : ByteArray) : ∀ (n j : Nat), j < n → (hexL s n)[2 * j]? = some (hd (byteAt s j / 16)) ∧ (hexL s n)[2 * j + 1]? = some (hd (byteAt s j % 16))
  | 0, j, h => by omega
  | n + 1, j, h => by
    unfold hexL
    by_cases hj : j < n
    · have := hexL_even s n j hj
      rw [List.getElem?_append_left (by rw [hexL_length]; omega), List.getElem?_append_left (by rw [hexL_length]; omega)]
      exact this
    · obtain rfl : j = n := by omega
      rw [List.getElem?_append_right (by rw [hexL_length]; omega), List.getElem?_append_right (by rw [hexL_length]; omega), hexL_length]
      simp
theorem hd_bd (q : Int) (h : 0 ≤ q ∧ q < 16) : 0 ≤ hd q ∧ hd q < 256 := by unfold hd; split <;> omega
theorem dv_hd (q : Int) (h : 0 ≤ q ∧ q < 16) : dv (hd q) = q := by
  unfold hd dv
  by_cases h1 : q < 10
  · rw [if_pos h1, if_pos (by omega)]; omega
  · rw [if_neg h1, if_neg (by omega), if_pos (by omega)]; omega
theorem hd_dv (c : Int) (h : 0 ≤ dv c) : hd (dv c) = c := by
  unfold dv at *
  by_cases h1 : 48 ≤ c ∧ c ≤ 57
  · rw [if_pos h1]; unfold hd; rw [if_pos (by omega)]; omega
  · rw [if_neg h1] at *
    by_cases h2 : 97 ≤ c ∧ c ≤ 102
    · rw [if_pos h2]; unfold hd; rw [if_neg (by omega)]; omega
    · rw [if_neg h2] at h; omega
theorem hexS_at (s : ByteArray) (j : Nat) (h : j < 16) : byteAt (hexS s) (2 * j) = hd (byteAt s j / 16) ∧ byteAt (hexS s) (2 * j + 1) = hd (byteAt s j % 16) := by
  have hb := byteAt_bd s j
  have hl := hexL_even s 16 j h
  exact ⟨strOfNums_at _ _ _ hl.1 (hd_bd _ (by omega)), strOfNums_at _ _ _ hl.2 (hd_bd _ (by omega))⟩
/-- What Hex writes is read as what it was. -/
theorem unh_hex (s : ByteArray) : unhS (hexS s) = (rowF (byteAt s), 0) := by
  have hdg : digs (hexS s) 32 = true := by
    rw [digs_iff]
    intro k hk
    have h := hexS_at s (k / 2) (by omega)
    have hb := byteAt_bd s (k / 2)
    by_cases he : k % 2 = 0
    · rw [show k = 2 * (k / 2) from by omega, h.1, dv_hd _ (by omega)]; omega
    · rw [show k = 2 * (k / 2) + 1 from by omega, h.2, dv_hd _ (by omega)]; omega
  unfold unhS
  rw [if_pos ⟨hexS_size s, hdg⟩]
  refine congrArg (·, 0) (rowF_ext fun j hj => ?_)
  have h := hexS_at s j hj
  have hb := byteAt_bd s j
  unfold ub
  rw [h.1, h.2, dv_hd _ (by omega), dv_hd _ (by omega)]
  omega
theorem bytes_ext (a b : ByteArray) (hs : a.size = b.size) (h : ∀ k, k < a.size → byteAt a k = byteAt b k) : a = b := by
  apply ByteArray.ext
  apply Array.ext
  · exact hs
  · intro i h1 h2
    have := h i h1
    rw [← byteAt_eq a i h1, ← byteAt_eq b i h2] at this
    exact UInt8.toNat_inj.1 (by exact_mod_cast this)
theorem ub_bd (t : ByteArray) (hd : digs t 32 = true) : ∀ j, j < 16 → 0 ≤ ub t j ∧ ub t j < 256 := fun j hj => by
  have h := (digs_iff t 32).1 hd
  have h1 := h (2 * j) (by omega)
  have h2 := h (2 * j + 1) (by omega)
  have b1 := dv_bd (byteAt t (2 * j))
  have b2 := dv_bd (byteAt t (2 * j + 1))
  unfold ub
  omega
/-- What is read is written as what was read. -/
theorem hex_unh (t : ByteArray) (ht : t.size = 32) (hdg : digs t 32 = true) : hexS (fb (ub t)) = t := by
  refine bytes_ext _ _ (by rw [hexS_size, ht]) fun k hk => ?_
  rw [hexS_size] at hk
  have hall := (digs_iff t 32).1 hdg
  have h := hexS_at (fb (ub t)) (k / 2) (by omega)
  rw [fb_at (ub t) (ub_bd t hdg) (k / 2) (by omega)] at h
  have h1 := hall (2 * (k / 2)) (by omega)
  have h2 := hall (2 * (k / 2) + 1) (by omega)
  have b1 := dv_bd (byteAt t (2 * (k / 2)))
  have b2 := dv_bd (byteAt t (2 * (k / 2) + 1))
  have hu : ub t (k / 2) = 16 * dv (byteAt t (2 * (k / 2))) + dv (byteAt t (2 * (k / 2) + 1)) := rfl
  by_cases he : k % 2 = 0
  · rw [show k = 2 * (k / 2) from by omega]
    have e : ub t (2 * (k / 2) / 2) / 16 = dv (byteAt t (2 * (k / 2))) := by rw [show 2 * (k / 2) / 2 = k / 2 from by omega, hu]; omega
    rw [h.1, show ub t (k / 2) / 16 = dv (byteAt t (2 * (k / 2))) by rw [hu]; omega]
    exact hd_dv _ h1
  · rw [show k = 2 * (k / 2) + 1 from by omega, h.2, show ub t (k / 2) % 16 = dv (byteAt t (2 * (k / 2) + 1)) by rw [hu]; omega]
    exact hd_dv _ h2
end Go.Proofs.YtimecmleaeimkaaDoor
