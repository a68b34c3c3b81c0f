/- The reference's Printed, zeros, PutText and Pad. -/
import Derived.Test.YtimecmleaeimkaaOct5
namespace Go.Proofs.Ytimecmleaeimkaa
open Go.RowKit
set_option linter.unusedVariables false

set_option maxHeartbeats 400000 in
theorem rPrinted_c (s : ByteArray) (hs : s.size ≤ 140737488355328) (w : World) : Calls Try.prog 34 #[.string s] w (Ret w (.bool (prt s s.size))) := by
  go_enter Try.func34, Try.ntmps34
  go_wp2
  go_loop [3] (fun i => ∃ k : Nat, k ≤ s.size ∧ i = .int .i64 k ∧ Hd (prt s k = true)) (fun i => s.size - (intOf i).toNat)
  case atStart => exact ⟨0, by omega, rfl, ⟨rfl⟩⟩
  case round =>
    obtain ⟨k, hk, rfl, HP⟩ := hrel
    by_cases hlt : k < s.size
    · have e1 := byteAt_eq s k hlt
      have hb := byteAt_bd s k
      by_cases hg : 32 ≤ byteAt s k ∧ byteAt s k ≤ 126
      · have a1 := hg.1
        have a2 := hg.2
        have HG := Hd.mk hg
        clear hg
        go_wp2
        go_round
        case rel => exact ⟨k + 1, by omega, by go_num, ⟨by simp [prt, HP.out, HG.out]⟩⟩
        case measure => simp [intOf]; omega
      · have hf := Hd.mk (prt_false s s.size k hlt hg)
        by_cases h32 : byteAt s k < 32
        · clear hg
          go_wp2
          go_ret
          exact ⟨by rw [hf.out]; rfl, (by repeat (first | exact Ext.refl _ | assumption | apply Ext.alloc | apply Ext.drew | apply Ext.drewN | apply Ext.bytes | apply Ext.iter | refine Ext.setCell ?_ (by simp; omega) _ | refine Ext.trans ?_ (by assumption)))⟩
        · have h126 : 126 < byteAt s k := by omega
          clear hg
          go_wp2
          go_ret
          exact ⟨by rw [hf.out]; rfl, (by repeat (first | exact Ext.refl _ | assumption | apply Ext.alloc | apply Ext.drew | apply Ext.drewN | apply Ext.bytes | apply Ext.iter | refine Ext.setCell ?_ (by simp; omega) _ | refine Ext.trans ?_ (by assumption)))⟩
    · have HS := Hd.mk (show k = s.size by omega)
      go_wp2
      go_ret
      exact ⟨by rw [← HS.out, HP.out]; rfl, (by repeat (first | exact Ext.refl _ | assumption | apply Ext.alloc | apply Ext.drew | apply Ext.drewN | apply Ext.bytes | apply Ext.iter | refine Ext.setCell ?_ (by simp; omega) _ | refine Ext.trans ?_ (by assumption)))⟩

theorem Ext.grown {w w' : World} (h : w.grownBy w' none) : Ext w w' := ⟨h.os, h.tape, h.output, h.size, fun k hk => h.block k hk (by simp)⟩
theorem made_u8 (c j : Nat) (h : j < c) : (madeCells (Value.int .u8 0).cells (c * 1)).toList[j]? = some (.int .u8 0) := by
  simp [madeCells, Value.cells, h, Nat.mod_one]

set_option maxHeartbeats 400000 in
theorem zeros_c (n : Int) (h0 : 0 ≤ n) (h1 : n ≤ 140737488355328) (w : World) : Calls Try.prog 35 #[.int .i64 n] w (Ret w (.string (zeroS n.toNat))) := by
  obtain ⟨c, rfl⟩ := Int.eq_ofNat_of_zero_le h0
  obtain ⟨i0, hi, hz0, hz1, hz2⟩ := info_parts (show (Try.prog.info? 5).map (fun i => (i.zero, i.size, i.bytes)) = some (some (.int .u8 0), 1, 1) by kernel_rfl)
  obtain ⟨w1, hmk, hown, hg⟩ := run_make_full (P := Try.prog) w w.heap.size 60 5 i0 (.int .u8 0) 1 Try.underlying60 hi hz0 hz1 .i64 .i64 c (by rw [hz2]; omega) (by unfold maxLen; omega) (Nat.le_refl _)
  have hcv := run_convert_bytes_arg (P := Try.prog) w1 60 5 Try.underlying60 Try.underlying5 w.heap.size 0 c c (List.replicate c 0) (by simp) (fun j hj => by
    rw [Nat.zero_add, hown.cellAt j (by omega), made_u8 c j hj]; simp [hj]) 9 Try.underlying9
  have hE := Ext.grown hg
  obtain ⟨z, ez⟩ : ∃ z, z = strOfNums (List.replicate c 0) := ⟨_, rfl⟩
  have HZ := Hd.mk (show z = zeroS (c : Int).toNat from ez)
  rw [← ez] at hcv
  clear hown hg hi hz0 hz1 hz2 ez
  go_enter Try.func35, Try.ntmps35
  go_wp2
  go_ret
  exact ⟨by rw [← HZ.out]; rfl, (by repeat (first | exact Ext.refl _ | assumption | apply Ext.alloc | apply Ext.drew | apply Ext.drewN | apply Ext.bytes | apply Ext.iter | refine Ext.setCell ?_ (by simp; omega) _ | refine Ext.trans ?_ (by assumption)))⟩

set_option maxHeartbeats 400000 in
theorem rPutText_c (t : ByteArray) (n : Int) (ht : t.size ≤ 140737488355328) (w : World) : Calls Try.prog 16 #[.string t, .int .i64 n] w (Ret w (.tuple #[.string (putTextS t n).1, .int .i64 (putTextS t n).2])) := by
  by_cases h1 : n < 0 ∨ 65536 < n
  · have HP := Hd.mk (show putTextS t n = (⟨#[]⟩, 2) from if_pos h1)
    by_cases h2 : n < 0
    all_goals
      go_enter Try.func16, Try.ntmps16
      go_wp2
      go_ret2
      exact ⟨by rw [HP.out]; rfl, (by repeat (first | exact Ext.refl _ | assumption | apply Ext.alloc | apply Ext.drew | apply Ext.drewN | apply Ext.bytes | apply Ext.iter | refine Ext.setCell ?_ (by simp; omega) _ | refine Ext.trans ?_ (by assumption)))⟩
  have h2 : ¬ n < 0 := by omega
  have h3 : ¬ 65536 < n := by omega
  cases hp : prt t t.size
  · have HP := Hd.mk (show putTextS t n = (⟨#[]⟩, 5) by unfold putTextS; rw [if_neg h1, if_pos hp])
    clear h1
    go_enter Try.func16, Try.ntmps16
    go_wp2_with (go_at_call 34; refine (rPrinted_c _ ht _).mono ?_; rintro e w1 ⟨rfl, hb1⟩; rw [hp])
    go_ret2
    exact ⟨by rw [HP.out]; rfl, (by repeat (first | exact Ext.refl _ | assumption | apply Ext.alloc | apply Ext.drew | apply Ext.drewN | apply Ext.bytes | apply Ext.iter | refine Ext.setCell ?_ (by simp; omega) _ | refine Ext.trans ?_ (by assumption)))⟩
  by_cases h4 : n < (t.size : Int)
  · have HP := Hd.mk (show putTextS t n = (⟨#[]⟩, 3) by unfold putTextS; rw [if_neg h1, hp, if_neg (by decide), if_pos h4])
    clear h1
    go_enter Try.func16, Try.ntmps16
    go_wp2_with (go_at_call 34; refine (rPrinted_c _ ht _).mono ?_; rintro e w1 ⟨rfl, hb1⟩; rw [hp])
    go_ret2
    exact ⟨by rw [HP.out]; rfl, (by repeat (first | exact Ext.refl _ | assumption | apply Ext.alloc | apply Ext.drew | apply Ext.drewN | apply Ext.bytes | apply Ext.iter | refine Ext.setCell ?_ (by simp; omega) _ | refine Ext.trans ?_ (by assumption)))⟩
  · have HP := Hd.mk (show putTextS t n = (t ++ zeroS (n - t.size).toNat, 0) by unfold putTextS; rw [if_neg h1, hp, if_neg (by decide), if_neg h4])
    have hz := zeroS_size (n - t.size).toNat
    obtain ⟨z, ez⟩ : ∃ z, z = zeroS (n - t.size).toNat := ⟨_, rfl⟩
    rw [← ez] at hz HP
    have hle : t.size + z.size ≤ 9223372036854775807 := by rw [hz]; omega
    have EZ := Hd.mk ez
    clear h1 hz ez
    go_enter Try.func16, Try.ntmps16
    go_wp2_with (first | (go_at_call 34; refine (rPrinted_c _ ht _).mono ?_; rintro e w1 ⟨rfl, hb1⟩; rw [hp]) | (go_at_call 35; refine (zeros_c _ (by omega) (by omega) _).mono ?_; rw [← EZ.out]; rintro e w2 ⟨rfl, hb2⟩))
    go_ret2
    exact ⟨by rw [HP.out]; rfl, (by repeat (first | exact Ext.refl _ | assumption | apply Ext.alloc | apply Ext.drew | apply Ext.drewN | apply Ext.bytes | apply Ext.iter | refine Ext.setCell ?_ (by simp; omega) _ | refine Ext.trans ?_ (by assumption)))⟩

theorem zeroS_snoc (s : ByteArray) (k : Nat) : s ++ zeroS k ++ zeroS 1 = s ++ zeroS (k + 1) := by
  rw [ByteArray.append_assoc]
  congr 1
  have : (List.replicate (k + 1) (0 : Int)) = List.replicate k 0 ++ List.replicate 1 0 := List.replicate_append_replicate.symm
  unfold zeroS
  rw [this]
  apply ByteArray.ext
  apply Array.ext'
  simp [strOfNums]
theorem zeroS_none (s : ByteArray) : s ++ zeroS 0 = s := by
  apply ByteArray.ext
  simp [zeroS, strOfNums]

/-- How many zeros stand behind. -/
def padN (n l : Int) : Nat := ((n - l % n) % n).toNat
theorem padN_spec (n l : Int) (hn : 1 ≤ n) : (l + padN n l) % n = 0 ∧ (padN n l : Int) < n ∧ ∀ k : Nat, k < padN n l → (l + k) % n ≠ 0 := by
  have m0 : 0 ≤ l % n := Int.emod_nonneg _ (by omega)
  have m1 : l % n < n := Int.emod_lt_of_pos _ (by omega)
  have hl : n * (l / n) + l % n = l := Int.mul_ediv_add_emod l n
  unfold padN
  by_cases h : l % n = 0
  · rw [h, Int.sub_zero, Int.emod_self]
    exact ⟨by simpa using h, by simp; omega, fun k hk => by simp at hk⟩
  · have e : (n - l % n) % n = n - l % n := Int.emod_eq_of_lt (by omega) (by omega)
    rw [e]
    have e2 : ((n - l % n).toNat : Int) = n - l % n := by omega
    refine ⟨?_, by omega, fun k hk hz => ?_⟩
    · rw [e2, show l + (n - l % n) = n * (l / n + 1) by rw [Int.mul_add]; omega]
      exact Int.mul_emod_right _ _
    · have e3 : (l + k) % n = l % n + k := by
        rw [show l + (k : Int) = (l % n + k) + n * (l / n) by omega, Int.add_mul_emod_self_left]
        exact Int.emod_eq_of_lt (by omega) (by omega)
      omega

/-- A string's length in a slot. -/
def szOf : Value → Nat | .string t => t.size | _ => 0

theorem padS_eq (s : ByteArray) (n : Int) : padS s n = if 65536 < (s.size : Int) then (⟨#[]⟩, 3) else if n < 1 ∨ 64 < n then (⟨#[]⟩, 2)
    else if 65536 < (s.size : Int) + padN n s.size then (⟨#[]⟩, 3) else (s ++ zeroS (padN n s.size), 0) := by
  unfold padS padN
  by_cases h1 : 65536 < (s.size : Int)
  · rw [if_pos h1, if_pos h1]
  · rw [if_neg h1, if_neg h1]
    by_cases h2 : n < 1 ∨ 64 < n
    · rw [if_pos h2, if_pos h2]
    · rw [if_neg h2, if_neg h2]
      have : 0 ≤ (n - (s.size : Int) % n) % n := Int.emod_nonneg _ (by omega)
      rw [Int.toNat_of_nonneg this]

set_option maxHeartbeats 400000 in
theorem rPad_c (s : ByteArray) (n : Int) (hs : s.size ≤ 140737488355328) (w : World) : Calls Try.prog 18 #[.string s, .int .i64 n] w (Ret w (.tuple #[.string (padS s n).1, .int .i64 (padS s n).2])) := by
  by_cases h1 : 65536 < (s.size : Int)
  · have HP := Hd.mk (show padS s n = (⟨#[]⟩, 3) from if_pos h1)
    go_enter Try.func18, Try.ntmps18
    go_wp2
    go_ret2
    exact ⟨by rw [HP.out]; rfl, (by repeat (first | exact Ext.refl _ | assumption | apply Ext.alloc | apply Ext.drew | apply Ext.drewN | apply Ext.bytes | apply Ext.iter | refine Ext.setCell ?_ (by simp; omega) _ | refine Ext.trans ?_ (by assumption)))⟩
  by_cases h2 : n < 1 ∨ 64 < n
  · have HP := Hd.mk (show padS s n = (⟨#[]⟩, 2) by unfold padS; rw [if_neg h1, if_pos h2])
    by_cases h3 : n < 1
    all_goals
      go_enter Try.func18, Try.ntmps18
      go_wp2
      go_ret2
      exact ⟨by rw [HP.out]; rfl, (by repeat (first | exact Ext.refl _ | assumption | apply Ext.alloc | apply Ext.drew | apply Ext.drewN | apply Ext.bytes | apply Ext.iter | refine Ext.setCell ?_ (by simp; omega) _ | refine Ext.trans ?_ (by assumption)))⟩
  have hP : padS s n = if 65536 < (s.size : Int) + padN n s.size then (⟨#[]⟩, 3) else (s ++ zeroS (padN n s.size), 0) := by rw [padS_eq, if_neg h1, if_neg h2]
  have h3 : 1 ≤ n := by omega
  have h4 : n ≤ 64 := by omega
  have hp := padN_spec n s.size h3
  obtain ⟨m, em⟩ : ∃ m, m = padN n s.size := ⟨_, rfl⟩
  rw [← em] at hp hP
  have HQ := Hd.mk hp
  have HP := Hd.mk hP
  have hsz : s.size ≤ 65536 := by omega
  clear hp hP em h1 h2 hs
  go_enter Try.func18, Try.ntmps18
  go_wp2
  go_loopw [0] (fun v wr => ∃ k : Nat, ∃ t : ByteArray, v = .string t ∧ t.size = s.size + k ∧ k ≤ m ∧ Hd (t = s ++ zeroS k) ∧ Ext w wr) (fun v _ => s.size + m - szOf v)
  case atStart => exact ⟨0, s, rfl, rfl, by omega, ⟨(zeroS_none s).symm⟩, Ext.refl _⟩
  case round =>
    obtain ⟨k, t, rfl, htk, hkm, ht, hE⟩ := hrel
    have hm64 := HQ.out.2.1
    have HT := Hd.mk htk
    have ht65 : t.size ≤ 65600 := by omega
    clear htk
    by_cases hk : k < m
    · have hne : ((t.size : Int) % n == 0) = false := beq_eq_false_iff_ne.2 (by rw [HT.out]; push_cast; exact HQ.out.2.2 k hk)
      have hne2 : ((t.size : Int) % n != 0) = true := by rw [bne, hne]; rfl
      clear hm64
      obtain ⟨z1, ez1⟩ : ∃ z, z = zeroS 1 := ⟨_, rfl⟩
      have hz1 : z1.size = 1 := by rw [ez1, zeroS_size]
      have EZ := Hd.mk (show z1 = zeroS (1 : Int).toNat from ez1)
      clear ez1
      go_wp2_with (go_at_call 35; refine (zeros_c _ (by omega) (by omega) _).mono ?_; rw [← EZ.out]; rintro e w2 ⟨rfl, hb2⟩)
      go_roundw
      case rel => exact ⟨k + 1, t ++ z1, rfl, by rw [ByteArray.size_append, hz1, HT.out]; omega, by omega, ⟨by rw [ht.out, EZ.out]; exact zeroS_snoc s k⟩, (by repeat (first | exact Ext.refl _ | assumption | apply Ext.alloc | apply Ext.drew | apply Ext.drewN | apply Ext.bytes | apply Ext.iter | refine Ext.setCell ?_ (by simp; omega) _ | refine Ext.trans ?_ (by assumption)))⟩
      case measure => simp only [szOf, ByteArray.size_append, hz1, HT.out]; omega
    · have hkm' : k = m := by omega
      have HK := Hd.mk hkm'
      have htm : (t.size : Int) = s.size + m := by rw [HT.out, hkm']; push_cast; rfl
      have hne : ((t.size : Int) % n == 0) = true := beq_iff_eq.2 (by rw [htm]; exact HQ.out.1)
      have hne2 : ((t.size : Int) % n != 0) = false := by rw [bne, hne]; rfl
      have HM := Hd.mk htm
      clear hm64 hkm' htm
      by_cases h5 : 65536 < (t.size : Int)
      · go_wp2
        go_ret2
        exact ⟨by rw [HP.out, if_pos (by rw [← HM.out]; exact h5)]; rfl, (by repeat (first | exact Ext.refl _ | assumption | apply Ext.alloc | apply Ext.drew | apply Ext.drewN | apply Ext.bytes | apply Ext.iter | refine Ext.setCell ?_ (by simp; omega) _ | refine Ext.trans ?_ (by assumption)))⟩
      · go_wp2
        go_ret2
        exact ⟨by rw [HP.out, if_neg (by rw [← HM.out]; omega), ← HK.out, ← ht.out]; rfl, (by repeat (first | exact Ext.refl _ | assumption | apply Ext.alloc | apply Ext.drew | apply Ext.drewN | apply Ext.bytes | apply Ext.iter | refine Ext.setCell ?_ (by simp; omega) _ | refine Ext.trans ?_ (by assumption)))⟩
end Go.Proofs.Ytimecmleaeimkaa
