/- Text octets: printed, PutText, Pad and their reference. -/
import Derived.Test.YtimecmleaeimkaaDoorOct3
import Derived.Test.YtimecmleaeimkaaDoorShelf
namespace Go.Proofs.YtimecmleaeimkaaDoor
open Go.RowKit
set_option linter.unusedVariables false

def prt (s : ByteArray) : Nat → Bool
  | 0 => true
  | k + 1 => prt s k && (decide (32 ≤ byteAt s k) && decide (byteAt s k ≤ 126))
theorem prt_false (s : ByteArray) : ∀ (n k : Nat), k < n → ¬ (32 ≤ byteAt s k ∧ byteAt s k ≤ 126) → prt s n = false
  | 0, k, h, _ => by omega
  | n + 1, k, h, hb => by
    by_cases e : k = n
    · subst e
      simp only [prt, Bool.and_eq_false_iff, decide_eq_false_iff_not]
      omega
    · simp [prt, prt_false s n k (by omega) hb]

set_option maxHeartbeats 400000 in
theorem printed_c (s : ByteArray) (w : World) : Calls Tryd.prog 98 #[.string s] w (Ret w (.bool (prt s s.size))) := by
  go_enter Tryd.func98, Tryd.ntmps98
  go_wp2
  go_step3
  go_wp2
  go_step3
  go_wp2
  go_loopw [3, 5] (fun r _ w' => ∃ pos : Nat, w' = w.iter s pos ∧ pos ≤ s.size ∧ prt s pos = true ∧ r = .bool true) (fun _ _ w' => s.size - w'.iterPos w.heap.size)
  case atStart => exact ⟨0, rfl, by omega, rfl, rfl⟩
  case round =>
    obtain ⟨pos, rfl, hp0, hpr, rfl⟩ := hrel
    have HP := Hd.mk hpr
    clear hpr
    by_cases hp : pos < s.size
    · have hnx : ∀ ty, (Instr.next (.pointer (some ⟨w.heap.size, 0, none⟩)) true ty).run Tryd.prog (w.iter s pos) = _ := fun ty => run_next_any w s pos ty hp
      have e1 := byteAt_eq s pos hp
      by_cases hg : 32 ≤ byteAt s pos ∧ byteAt s pos ≤ 126
      · have hd := decode_ascii s pos hp (by omega)
        have hd1 : ((Utf8.decode s pos).1 : Int) = byteAt s pos := by rw [hd]; exact e1
        have hd2 : (Utf8.decode s pos).2 = 1 := by rw [hd]
        have a1 := hg.1
        have a2 := hg.2
        have HH := Hd.mk (And.intro hd2 hg)
        clear hd hd2 hg e1
        go_wp2
        go_roundw
        case rel => exact ⟨pos + 1, by rw [HH.out.1], by omega, by simp [prt, HP.out, HH.out.2], rfl⟩
        case measure => simp only [World.iterPos_iter, HH.out.1]; omega
      · have hf := Hd.mk (prt_false s s.size pos hp hg)
        have hlo : byteAt s pos < 32 ∨ ¬ byteAt s pos < 32 ∧ 126 < ((Utf8.decode s pos).1 : Int) := by
          by_cases h32 : byteAt s pos < 32
          · exact .inl h32
          · refine .inr ⟨h32, ?_⟩
            by_cases h128 : byteAt s pos < 128
            · rw [decode_ascii s pos hp (by omega)]; omega
            · have := (decode_high s pos hp (by omega)).1; omega
        rcases hlo with h32 | ⟨h32, h126⟩
        · have hd1 : ((Utf8.decode s pos).1 : Int) = byteAt s pos := by rw [decode_ascii s pos hp (by omega)]; exact e1
          clear e1 hg
          go_wp2
          rw [Exit.noGoto_ret]
          go_ret
          exact ⟨by rw [hf.out]; rfl, (by repeat (first | exact Ext.refl _ | assumption | apply Ext.alloc | apply Ext.drew | apply Ext.drewN | apply Ext.bytes | apply Ext.iter | refine Ext.setCell ?_ (by simp; omega) _ | refine Ext.trans ?_ (by assumption)))⟩
        · have h126' : 32 ≤ ((Utf8.decode s pos).1 : Int) := by omega
          clear e1 hg h32
          go_wp2
          rw [Exit.noGoto_ret]
          go_ret
          exact ⟨by rw [hf.out]; rfl, (by repeat (first | exact Ext.refl _ | assumption | apply Ext.alloc | apply Ext.drew | apply Ext.drewN | apply Ext.bytes | apply Ext.iter | refine Ext.setCell ?_ (by simp; omega) _ | refine Ext.trans ?_ (by assumption)))⟩
    · have hnx : ∀ ty, (Instr.next (.pointer (some ⟨w.heap.size, 0, none⟩)) true ty).run Tryd.prog (w.iter s pos) = _ := fun ty => run_next_end w s pos ty hp
      have hps : pos = s.size := by omega
      have HS := Hd.mk hps
      clear hps
      go_wp2
      rw [Exit.noGoto_ret]
      go_ret
      exact ⟨by rw [← HS.out, HP.out]; rfl, (by repeat (first | exact Ext.refl _ | assumption | apply Ext.alloc | apply Ext.drew | apply Ext.drewN | apply Ext.bytes | apply Ext.iter | refine Ext.setCell ?_ (by simp; omega) _ | refine Ext.trans ?_ (by assumption)))⟩

def zeroS (n : Nat) : ByteArray := strOfNums (List.replicate n 0)
theorem zeroS_size (n : Nat) : (zeroS n).size = n := by rw [zeroS, strOfNums_size]; simp
theorem repeat_zero (c : Nat) : (⟨(Lib.repeatL (ByteArray.mk #[0]).data.toList c).toArray⟩ : ByteArray) = zeroS c := by
  have h : Lib.repeatL [(0 : UInt8)] c = List.replicate c 0 := by
    have := Lib.repeatL_replicate (0 : UInt8) 1 c
    simpa using this
  show (⟨(Lib.repeatL [(0 : UInt8)] c).toArray⟩ : ByteArray) = strOfNums (List.replicate c 0)
  rw [h]
  simp [strOfNums]
theorem Repeat0_c (n : Int) (h0 : 0 ≤ n) (h1 : n ≤ 140737488355328) (w : World) : Calls Tryd.prog 28 #[.string ⟨#[0]⟩, .int .i64 n] w (Ret w (.string (zeroS n.toNat))) := by
  obtain ⟨c, rfl⟩ := Int.eq_ofNat_of_zero_le h0
  refine (Tryd.strings_Repeat ⟨#[0]⟩ c w (by omega) (by show 1 * c ≤ _; omega)).mono ?_
  rintro e w' ⟨rfl, hb⟩
  rw [repeat_zero]
  exact ⟨rfl, hb⟩

def putTextS (t : ByteArray) (n : Int) : ByteArray × Int :=
  if n < 0 ∨ 65536 < n then (⟨#[]⟩, 2) else if prt t t.size = false then (⟨#[]⟩, 5) else if n < (t.size : Int) then (⟨#[]⟩, 3) else (t ++ zeroS (n - t.size).toNat, 0)
def padS (s : ByteArray) (n : Int) : ByteArray × Int :=
  if 65536 < (s.size : Int) then (⟨#[]⟩, 3) else if n < 1 ∨ 64 < n then (⟨#[]⟩, 2)
  else if 65536 < (s.size : Int) + (n - s.size % n) % n then (⟨#[]⟩, 3) else (s ++ zeroS ((n - s.size % n) % n).toNat, 0)

set_option maxHeartbeats 400000 in
theorem PutText_c (t : ByteArray) (n : Int) (ht : t.size ≤ 140737488355328) (w : World) : Calls Tryd.prog 70 #[.string t, .int .i64 n] w (Ret w (.tuple #[.string (putTextS t n).1, .int .i64 (putTextS t n).2])) := by
  by_cases h1 : n < 0 ∨ 65536 < n
  · have HP := Hd.mk (show putTextS t n = (⟨#[]⟩, 2) from if_pos h1)
    by_cases h2 : n < 0
    all_goals
      go_enter Tryd.func70, Tryd.ntmps70
      go_wp2
      go_ret2
      exact ⟨by rw [HP.out]; rfl, (by repeat (first | exact Ext.refl _ | assumption | apply Ext.alloc | apply Ext.drew | apply Ext.drewN | apply Ext.bytes | apply Ext.iter | refine Ext.setCell ?_ (by simp; omega) _ | refine Ext.trans ?_ (by assumption)))⟩
  have h2 : ¬ n < 0 := by omega
  have h3 : ¬ 65536 < n := by omega
  cases hp : prt t t.size
  · have HP := Hd.mk (show putTextS t n = (⟨#[]⟩, 5) by unfold putTextS; rw [if_neg h1, if_pos hp])
    clear h1
    go_enter Tryd.func70, Tryd.ntmps70
    go_wp2_with (go_at_call 98; refine (printed_c _ _).mono ?_; rintro e w1 ⟨rfl, hb1⟩; rw [hp])
    go_ret2
    exact ⟨by rw [HP.out]; rfl, (by repeat (first | exact Ext.refl _ | assumption | apply Ext.alloc | apply Ext.drew | apply Ext.drewN | apply Ext.bytes | apply Ext.iter | refine Ext.setCell ?_ (by simp; omega) _ | refine Ext.trans ?_ (by assumption)))⟩
  by_cases h4 : n < (t.size : Int)
  · have HP := Hd.mk (show putTextS t n = (⟨#[]⟩, 3) by unfold putTextS; rw [if_neg h1, hp, if_neg (by decide), if_pos h4])
    clear h1
    go_enter Tryd.func70, Tryd.ntmps70
    go_wp2_with (go_at_call 98; refine (printed_c _ _).mono ?_; rintro e w1 ⟨rfl, hb1⟩; rw [hp])
    go_ret2
    exact ⟨by rw [HP.out]; rfl, (by repeat (first | exact Ext.refl _ | assumption | apply Ext.alloc | apply Ext.drew | apply Ext.drewN | apply Ext.bytes | apply Ext.iter | refine Ext.setCell ?_ (by simp; omega) _ | refine Ext.trans ?_ (by assumption)))⟩
  · have HP := Hd.mk (show putTextS t n = (t ++ zeroS (n - t.size).toNat, 0) by unfold putTextS; rw [if_neg h1, hp, if_neg (by decide), if_neg h4])
    have hz := zeroS_size (n - t.size).toNat
    obtain ⟨z, ez⟩ : ∃ z, z = zeroS (n - t.size).toNat := ⟨_, rfl⟩
    rw [← ez] at hz HP
    have hle : t.size + z.size ≤ 9223372036854775807 := by rw [hz]; omega
    have EZ := Hd.mk ez
    clear h1 hz ez
    go_enter Tryd.func70, Tryd.ntmps70
    go_wp2_with (first | (go_at_call 98; refine (printed_c _ _).mono ?_; rintro e w1 ⟨rfl, hb1⟩; rw [hp]) | (go_at_call 28; refine (Repeat0_c _ (by omega) (by omega) _).mono ?_; rw [← EZ.out]; rintro e w2 ⟨rfl, hb2⟩))
    go_ret2
    exact ⟨by rw [HP.out]; rfl, (by repeat (first | exact Ext.refl _ | assumption | apply Ext.alloc | apply Ext.drew | apply Ext.drewN | apply Ext.bytes | apply Ext.iter | refine Ext.setCell ?_ (by simp; omega) _ | refine Ext.trans ?_ (by assumption)))⟩

set_option maxHeartbeats 400000 in
theorem Pad_c (s : ByteArray) (n : Int) (hs : s.size ≤ 140737488355328) (w : World) : Calls Tryd.prog 38 #[.string s, .int .i64 n] w (Ret w (.tuple #[.string (padS s n).1, .int .i64 (padS s n).2])) := by
  by_cases h1 : 65536 < (s.size : Int)
  · have HP := Hd.mk (show padS s n = (⟨#[]⟩, 3) from if_pos h1)
    go_enter Tryd.func38, Tryd.ntmps38
    go_wp2
    go_ret2
    exact ⟨by rw [HP.out]; rfl, (by repeat (first | exact Ext.refl _ | assumption | apply Ext.alloc | apply Ext.drew | apply Ext.drewN | apply Ext.bytes | apply Ext.iter | refine Ext.setCell ?_ (by simp; omega) _ | refine Ext.trans ?_ (by assumption)))⟩
  by_cases h2 : n < 1 ∨ 64 < n
  · have HP := Hd.mk (show padS s n = (⟨#[]⟩, 2) by unfold padS; rw [if_neg h1, if_pos h2])
    by_cases h3 : n < 1
    all_goals
      go_enter Tryd.func38, Tryd.ntmps38
      go_wp2
      go_ret2
      exact ⟨by rw [HP.out]; rfl, (by repeat (first | exact Ext.refl _ | assumption | apply Ext.alloc | apply Ext.drew | apply Ext.drewN | apply Ext.bytes | apply Ext.iter | refine Ext.setCell ?_ (by simp; omega) _ | refine Ext.trans ?_ (by assumption)))⟩
  have h3 : 1 ≤ n := by omega
  have h4 : n ≤ 64 := by omega
  have hm0 : 0 ≤ (s.size : Int) % n := Int.emod_nonneg _ (by omega)
  have hm1 : (s.size : Int) % n < n := Int.emod_lt_of_pos _ (by omega)
  have hz0 : 0 ≤ (n - (s.size : Int) % n) % n := Int.emod_nonneg _ (by omega)
  have hz1 : (n - (s.size : Int) % n) % n < n := Int.emod_lt_of_pos _ (by omega)
  obtain ⟨q, eq⟩ : ∃ q, q = (s.size : Int) % n := ⟨_, rfl⟩
  obtain ⟨m, em⟩ : ∃ m, m = (n - q) % n := ⟨_, rfl⟩
  rw [← eq] at hm0 hm1 hz0 hz1
  rw [← em] at hz0 hz1
  have hP : padS s n = if 65536 < (s.size : Int) + m then (⟨#[]⟩, 3) else (s ++ zeroS m.toNat, 0) := by
    unfold padS; rw [if_neg h1, if_neg h2, ← eq, ← em]
  have hz := zeroS_size m.toNat
  obtain ⟨z, ez⟩ : ∃ z, z = zeroS m.toNat := ⟨_, rfl⟩
  rw [← ez] at hz hP
  have hle : s.size + z.size ≤ 9223372036854775807 := by rw [hz]; omega
  have hzm : (z.size : Int) = m := by rw [hz]; omega
  have EZ := Hd.mk ez
  have e1 : (s.size : Int) % n = q := eq.symm
  have e2 : (n - q) % n = m := em.symm
  have h4' : s.size ≤ 65536 := by omega
  clear hz ez eq em h2
  by_cases h5 : 65536 < (s.size : Int) + m
  · have HP := Hd.mk (show padS s n = (⟨#[]⟩, 3) by rw [hP, if_pos h5])
    clear hP
    go_enter Tryd.func38, Tryd.ntmps38
    go_wp2_with (go_at_call 28; refine (Repeat0_c _ (by omega) (by omega) _).mono ?_; rw [← EZ.out]; rintro e w2 ⟨rfl, hb2⟩)
    go_ret2
    exact ⟨by rw [HP.out]; rfl, (by repeat (first | exact Ext.refl _ | assumption | apply Ext.alloc | apply Ext.drew | apply Ext.drewN | apply Ext.bytes | apply Ext.iter | refine Ext.setCell ?_ (by simp; omega) _ | refine Ext.trans ?_ (by assumption)))⟩
  · have HP := Hd.mk (show padS s n = (s ++ z, 0) by rw [hP, if_neg h5])
    clear hP
    go_enter Tryd.func38, Tryd.ntmps38
    go_wp2_with (go_at_call 28; refine (Repeat0_c _ (by omega) (by omega) _).mono ?_; rw [← EZ.out]; rintro e w2 ⟨rfl, hb2⟩)
    go_ret2
    exact ⟨by rw [HP.out]; rfl, (by repeat (first | exact Ext.refl _ | assumption | apply Ext.alloc | apply Ext.drew | apply Ext.drewN | apply Ext.bytes | apply Ext.iter | refine Ext.setCell ?_ (by simp; omega) _ | refine Ext.trans ?_ (by assumption)))⟩
end Go.Proofs.YtimecmleaeimkaaDoor
