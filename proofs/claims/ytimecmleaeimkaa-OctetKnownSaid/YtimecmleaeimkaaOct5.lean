/- The reference's writers of octets. -/
import Derived.Test.YtimecmleaeimkaaOct4
namespace Go.Proofs.Ytimecmleaeimkaa
open Go.RowKit
set_option linter.unusedVariables false

theorem conv_lit (xs : List Int) (n : Nat) (hn : xs.length = n) (w : World) :
    (convert 60 9 (.slice (some ⟨w.heap.size, 0, none⟩) n n)).run Try.prog (w.alloc (.cells (xs.map (Value.int .u8)).toArray 5)) =
      .ok (.string (strOfNums xs)) (w.alloc (.cells (xs.map (Value.int .u8)).toArray 5)) := by
  refine run_convert_bytes_arg _ 60 5 Try.underlying60 Try.underlying5 w.heap.size 0 n n xs hn (fun i hi => ?_) 9 Try.underlying9
  have hi' : i < xs.length := by omega
  simp [hi']

set_option maxHeartbeats 1000000 in
theorem octets1_c (x : Int) (h0 : 0 ≤ x) (h1 : x < 4294967296) (w : World) : Calls Try.prog 32 #[.int .i64 x, .int .i64 1] w
    (Ret w (.string (strOfNums [x % 256]))) := by
  have hmk : ∀ w, (Instr.makeSlice 60 (.int .i64 1) (.int .i64 1)).run Try.prog w = .ok (.slice (some ⟨w.heap.size, 0, none⟩) 1 1) (w.alloc (.cells #[.int .u8 0] 5)) := fun _ => by kernel_rfl
  obtain ⟨b0, eb0⟩ : ∃ b, x % 256 = b := ⟨_, rfl⟩
  obtain ⟨y0, ey0⟩ : ∃ y, x / 256 = y := ⟨_, rfl⟩
  have q0 : 0 ≤ y0 ∧ y0 < 4294967296 := by omega
  have hb : 0 ≤ b0 ∧ b0 < 256 := by omega
  have E := Hd.mk (show ([b0] : List Int) = [x % 256] by rw [show x % 256 = b0 by omega])
  have hcv := conv_lit [b0] 1 rfl w
  simp only [List.map_cons, List.map_nil] at hcv
  go_enter Try.func32, Try.ntmps32
  go_wp2
  refine wp_loop_rounds 2 ?_
  rw [rounds_succ]; go_wp2
  rw [rounds_succ]; go_wp2
  go_ret
  exact ⟨by rw [← E.out]; rfl, (by repeat (first | exact Ext.refl _ | assumption | apply Ext.alloc | apply Ext.drew | apply Ext.drewN | apply Ext.bytes | apply Ext.iter | refine Ext.setCell ?_ (by simp; omega) _ | refine Ext.trans ?_ (by assumption)))⟩

set_option maxHeartbeats 1000000 in
theorem octets2_c (x : Int) (h0 : 0 ≤ x) (h1 : x < 4294967296) (w : World) : Calls Try.prog 32 #[.int .i64 x, .int .i64 2] w
    (Ret w (.string (strOfNums [x / 256 % 256, x % 256]))) := by
  have hmk : ∀ w, (Instr.makeSlice 60 (.int .i64 2) (.int .i64 2)).run Try.prog w = .ok (.slice (some ⟨w.heap.size, 0, none⟩) 2 2) (w.alloc (.cells #[.int .u8 0, .int .u8 0] 5)) := fun _ => by kernel_rfl
  obtain ⟨b0, eb0⟩ : ∃ b, x % 256 = b := ⟨_, rfl⟩
  obtain ⟨y0, ey0⟩ : ∃ y, x / 256 = y := ⟨_, rfl⟩
  have q0 : 0 ≤ y0 ∧ y0 < 4294967296 := by omega
  obtain ⟨b1, eb1⟩ : ∃ b, y0 % 256 = b := ⟨_, rfl⟩
  obtain ⟨y1, ey1⟩ : ∃ y, y0 / 256 = y := ⟨_, rfl⟩
  have q1 : 0 ≤ y1 ∧ y1 < 4294967296 := by omega
  have hb : 0 ≤ b0 ∧ b0 < 256 ∧ 0 ≤ b1 ∧ b1 < 256 := by omega
  have E := Hd.mk (show ([b1, b0] : List Int) = [x / 256 % 256, x % 256] by rw [show x / 256 % 256 = b1 by omega, show x % 256 = b0 by omega])
  have hcv := conv_lit [b1, b0] 2 rfl w
  simp only [List.map_cons, List.map_nil] at hcv
  go_enter Try.func32, Try.ntmps32
  go_wp2
  refine wp_loop_rounds 3 ?_
  rw [rounds_succ]; go_wp2
  rw [rounds_succ]; go_wp2
  rw [rounds_succ]; go_wp2
  go_ret
  exact ⟨by rw [← E.out]; rfl, (by repeat (first | exact Ext.refl _ | assumption | apply Ext.alloc | apply Ext.drew | apply Ext.drewN | apply Ext.bytes | apply Ext.iter | refine Ext.setCell ?_ (by simp; omega) _ | refine Ext.trans ?_ (by assumption)))⟩

set_option maxHeartbeats 1000000 in
theorem octets4_c (x : Int) (h0 : 0 ≤ x) (h1 : x < 4294967296) (w : World) : Calls Try.prog 32 #[.int .i64 x, .int .i64 4] w
    (Ret w (.string (strOfNums [x / 16777216 % 256, x / 65536 % 256, x / 256 % 256, x % 256]))) := by
  have hmk : ∀ w, (Instr.makeSlice 60 (.int .i64 4) (.int .i64 4)).run Try.prog w = .ok (.slice (some ⟨w.heap.size, 0, none⟩) 4 4) (w.alloc (.cells #[.int .u8 0, .int .u8 0, .int .u8 0, .int .u8 0] 5)) := fun _ => by kernel_rfl
  obtain ⟨b0, eb0⟩ : ∃ b, x % 256 = b := ⟨_, rfl⟩
  obtain ⟨y0, ey0⟩ : ∃ y, x / 256 = y := ⟨_, rfl⟩
  have q0 : 0 ≤ y0 ∧ y0 < 4294967296 := by omega
  obtain ⟨b1, eb1⟩ : ∃ b, y0 % 256 = b := ⟨_, rfl⟩
  obtain ⟨y1, ey1⟩ : ∃ y, y0 / 256 = y := ⟨_, rfl⟩
  have q1 : 0 ≤ y1 ∧ y1 < 4294967296 := by omega
  obtain ⟨b2, eb2⟩ : ∃ b, y1 % 256 = b := ⟨_, rfl⟩
  obtain ⟨y2, ey2⟩ : ∃ y, y1 / 256 = y := ⟨_, rfl⟩
  have q2 : 0 ≤ y2 ∧ y2 < 4294967296 := by omega
  obtain ⟨b3, eb3⟩ : ∃ b, y2 % 256 = b := ⟨_, rfl⟩
  obtain ⟨y3, ey3⟩ : ∃ y, y2 / 256 = y := ⟨_, rfl⟩
  have q3 : 0 ≤ y3 ∧ y3 < 4294967296 := by omega
  have hb : 0 ≤ b0 ∧ b0 < 256 ∧ 0 ≤ b1 ∧ b1 < 256 ∧ 0 ≤ b2 ∧ b2 < 256 ∧ 0 ≤ b3 ∧ b3 < 256 := by omega
  have E := Hd.mk (show ([b3, b2, b1, b0] : List Int) = [x / 16777216 % 256, x / 65536 % 256, x / 256 % 256, x % 256] by rw [show x / 16777216 % 256 = b3 by omega, show x / 65536 % 256 = b2 by omega, show x / 256 % 256 = b1 by omega, show x % 256 = b0 by omega])
  have hcv := conv_lit [b3, b2, b1, b0] 4 rfl w
  simp only [List.map_cons, List.map_nil] at hcv
  go_enter Try.func32, Try.ntmps32
  go_wp2
  refine wp_loop_rounds 5 ?_
  rw [rounds_succ]; go_wp2
  rw [rounds_succ]; go_wp2
  rw [rounds_succ]; go_wp2
  rw [rounds_succ]; go_wp2
  rw [rounds_succ]; go_wp2
  go_ret
  exact ⟨by rw [← E.out]; rfl, (by repeat (first | exact Ext.refl _ | assumption | apply Ext.alloc | apply Ext.drew | apply Ext.drewN | apply Ext.bytes | apply Ext.iter | refine Ext.setCell ?_ (by simp; omega) _ | refine Ext.trans ?_ (by assumption)))⟩

set_option maxHeartbeats 400000 in
theorem rPutU8_c (n : Int) (w : World) : Calls Try.prog 10 #[.int .i64 n] w
    (Ret w (.tuple #[.string (putS (widOct 0) (widLow 0) (widHigh 0) n).1, .int .i64 (putS (widOct 0) (widLow 0) (widHigh 0) n).2])) := by
  have hP : putS (widOct 0) (widLow 0) (widHigh 0) n = if n < 0 ∨ 255 < n then (⟨#[]⟩, 2) else (strOfNums (([n / 16777216 % 256, n / 65536 % 256, n / 256 % 256, n % 256] : List Int).drop 3), 0) := rfl
  by_cases h : n < 0 ∨ 255 < n
  · have HP := Hd.mk (show putS (widOct 0) (widLow 0) (widHigh 0) n = (⟨#[]⟩, 2) by rw [hP, if_pos h])
    clear hP
    by_cases h' : n < 0
    all_goals
      go_enter Try.func10, Try.ntmps10
      go_wp2
      go_ret2
      exact ⟨by rw [HP.out]; rfl, (by repeat (first | exact Ext.refl _ | assumption | apply Ext.alloc | apply Ext.drew | apply Ext.drewN | apply Ext.bytes | apply Ext.iter | refine Ext.setCell ?_ (by simp; omega) _ | refine Ext.trans ?_ (by assumption)))⟩
  · have HP := Hd.mk (show putS (widOct 0) (widLow 0) (widHigh 0) n = (strOfNums _, 0) by rw [hP, if_neg h])
    clear hP
    have a1 : 0 ≤ n := by omega
    have a2 : n ≤ 255 := by omega
    clear h
    go_enter Try.func10, Try.ntmps10
    go_wp2_with (go_at_call 32; refine (octets1_c _ (by omega) (by omega) _).mono ?_; rintro e w2 ⟨rfl, hb2⟩)
    go_ret2
    exact ⟨by rw [HP.out]; rfl, (by repeat (first | exact Ext.refl _ | assumption | apply Ext.alloc | apply Ext.drew | apply Ext.drewN | apply Ext.bytes | apply Ext.iter | refine Ext.setCell ?_ (by simp; omega) _ | refine Ext.trans ?_ (by assumption)))⟩
set_option maxHeartbeats 400000 in
theorem rPutU16_c (n : Int) (w : World) : Calls Try.prog 11 #[.int .i64 n] w
    (Ret w (.tuple #[.string (putS (widOct 1) (widLow 1) (widHigh 1) n).1, .int .i64 (putS (widOct 1) (widLow 1) (widHigh 1) n).2])) := by
  have hP : putS (widOct 1) (widLow 1) (widHigh 1) n = if n < 0 ∨ 65535 < n then (⟨#[]⟩, 2) else (strOfNums (([n / 16777216 % 256, n / 65536 % 256, n / 256 % 256, n % 256] : List Int).drop 2), 0) := rfl
  by_cases h : n < 0 ∨ 65535 < n
  · have HP := Hd.mk (show putS (widOct 1) (widLow 1) (widHigh 1) n = (⟨#[]⟩, 2) by rw [hP, if_pos h])
    clear hP
    by_cases h' : n < 0
    all_goals
      go_enter Try.func11, Try.ntmps11
      go_wp2
      go_ret2
      exact ⟨by rw [HP.out]; rfl, (by repeat (first | exact Ext.refl _ | assumption | apply Ext.alloc | apply Ext.drew | apply Ext.drewN | apply Ext.bytes | apply Ext.iter | refine Ext.setCell ?_ (by simp; omega) _ | refine Ext.trans ?_ (by assumption)))⟩
  · have HP := Hd.mk (show putS (widOct 1) (widLow 1) (widHigh 1) n = (strOfNums _, 0) by rw [hP, if_neg h])
    clear hP
    have a1 : 0 ≤ n := by omega
    have a2 : n ≤ 65535 := by omega
    clear h
    go_enter Try.func11, Try.ntmps11
    go_wp2_with (go_at_call 32; refine (octets2_c _ (by omega) (by omega) _).mono ?_; rintro e w2 ⟨rfl, hb2⟩)
    go_ret2
    exact ⟨by rw [HP.out]; rfl, (by repeat (first | exact Ext.refl _ | assumption | apply Ext.alloc | apply Ext.drew | apply Ext.drewN | apply Ext.bytes | apply Ext.iter | refine Ext.setCell ?_ (by simp; omega) _ | refine Ext.trans ?_ (by assumption)))⟩
set_option maxHeartbeats 400000 in
theorem rPutU32_c (n : Int) (w : World) : Calls Try.prog 12 #[.int .i64 n] w
    (Ret w (.tuple #[.string (putS (widOct 2) (widLow 2) (widHigh 2) n).1, .int .i64 (putS (widOct 2) (widLow 2) (widHigh 2) n).2])) := by
  have hP : putS (widOct 2) (widLow 2) (widHigh 2) n = if n < 0 ∨ 4294967295 < n then (⟨#[]⟩, 2) else (strOfNums (([n / 16777216 % 256, n / 65536 % 256, n / 256 % 256, n % 256] : List Int).drop 0), 0) := rfl
  by_cases h : n < 0 ∨ 4294967295 < n
  · have HP := Hd.mk (show putS (widOct 2) (widLow 2) (widHigh 2) n = (⟨#[]⟩, 2) by rw [hP, if_pos h])
    clear hP
    by_cases h' : n < 0
    all_goals
      go_enter Try.func12, Try.ntmps12
      go_wp2
      go_ret2
      exact ⟨by rw [HP.out]; rfl, (by repeat (first | exact Ext.refl _ | assumption | apply Ext.alloc | apply Ext.drew | apply Ext.drewN | apply Ext.bytes | apply Ext.iter | refine Ext.setCell ?_ (by simp; omega) _ | refine Ext.trans ?_ (by assumption)))⟩
  · have HP := Hd.mk (show putS (widOct 2) (widLow 2) (widHigh 2) n = (strOfNums _, 0) by rw [hP, if_neg h])
    clear hP
    have a1 : 0 ≤ n := by omega
    have a2 : n ≤ 4294967295 := by omega
    clear h
    go_enter Try.func12, Try.ntmps12
    go_wp2_with (go_at_call 32; refine (octets4_c _ (by omega) (by omega) _).mono ?_; rintro e w2 ⟨rfl, hb2⟩)
    go_ret2
    exact ⟨by rw [HP.out]; rfl, (by repeat (first | exact Ext.refl _ | assumption | apply Ext.alloc | apply Ext.drew | apply Ext.drewN | apply Ext.bytes | apply Ext.iter | refine Ext.setCell ?_ (by simp; omega) _ | refine Ext.trans ?_ (by assumption)))⟩
set_option maxHeartbeats 400000 in
theorem rPutS32_c (n : Int) (w : World) : Calls Try.prog 13 #[.int .i64 n] w
    (Ret w (.tuple #[.string (putS (widOct 3) (widLow 3) (widHigh 3) n).1, .int .i64 (putS (widOct 3) (widLow 3) (widHigh 3) n).2])) := by
  have hP : putS (widOct 3) (widLow 3) (widHigh 3) n = if n < -2147483648 ∨ 2147483647 < n then (⟨#[]⟩, 2) else (strOfNums [n / 16777216 % 256, n / 65536 % 256, n / 256 % 256, n % 256], 0) := rfl
  by_cases h : n < -2147483648 ∨ 2147483647 < n
  · have HP := Hd.mk (show putS (widOct 3) (widLow 3) (widHigh 3) n = (⟨#[]⟩, 2) by rw [hP, if_pos h])
    clear hP
    by_cases h' : n < -2147483648
    all_goals
      go_enter Try.func13, Try.ntmps13
      go_wp2
      go_ret2
      exact ⟨by rw [HP.out]; rfl, (by repeat (first | exact Ext.refl _ | assumption | apply Ext.alloc | apply Ext.drew | apply Ext.drewN | apply Ext.bytes | apply Ext.iter | refine Ext.setCell ?_ (by simp; omega) _ | refine Ext.trans ?_ (by assumption)))⟩
  · have HP := Hd.mk (show putS (widOct 3) (widLow 3) (widHigh 3) n = (strOfNums [n / 16777216 % 256, n / 65536 % 256, n / 256 % 256, n % 256], 0) by rw [hP, if_neg h])
    clear hP
    have a1 : -2147483648 ≤ n := by omega
    have a2 : n ≤ 2147483647 := by omega
    clear h
    by_cases h' : n < 0
    · have E := Hd.mk (show ([(n + 4294967296) / 16777216 % 256, (n + 4294967296) / 65536 % 256, (n + 4294967296) / 256 % 256, (n + 4294967296) % 256] : List Int) = [n / 16777216 % 256, n / 65536 % 256, n / 256 % 256, n % 256] by
        rw [show (n + 4294967296) / 16777216 % 256 = n / 16777216 % 256 by omega, show (n + 4294967296) / 65536 % 256 = n / 65536 % 256 by omega, show (n + 4294967296) / 256 % 256 = n / 256 % 256 by omega, show (n + 4294967296) % 256 = n % 256 by omega])
      go_enter Try.func13, Try.ntmps13
      go_wp2_with (go_at_call 32; refine (octets4_c _ (by omega) (by omega) _).mono ?_; rw [E.out]; rintro e w2 ⟨rfl, hb2⟩)
      go_ret2
      exact ⟨by rw [HP.out]; rfl, (by repeat (first | exact Ext.refl _ | assumption | apply Ext.alloc | apply Ext.drew | apply Ext.drewN | apply Ext.bytes | apply Ext.iter | refine Ext.setCell ?_ (by simp; omega) _ | refine Ext.trans ?_ (by assumption)))⟩
    · go_enter Try.func13, Try.ntmps13
      go_wp2_with (go_at_call 32; refine (octets4_c _ (by omega) (by omega) _).mono ?_; rintro e w2 ⟨rfl, hb2⟩)
      go_ret2
      exact ⟨by rw [HP.out]; rfl, (by repeat (first | exact Ext.refl _ | assumption | apply Ext.alloc | apply Ext.drew | apply Ext.drewN | apply Ext.bytes | apply Ext.iter | refine Ext.setCell ?_ (by simp; omega) _ | refine Ext.trans ?_ (by assumption)))⟩
end Go.Proofs.Ytimecmleaeimkaa
