/- octet.U8 .. S32, PutU8 .. PutS32. -/
import Derived.Test.YtimecmleaeimkaaDoorOct2
namespace Go.Proofs.YtimecmleaeimkaaDoor
open Go.RowKit

set_option maxHeartbeats 400000 in
theorem U8_c (s : ByteArray) (a : Int) (w : World) : Calls Tryd.prog 64 #[.string s, .int .i64 a] w (Ret w (.tuple #[.int .i64 (getS s a 0).1, .int .i64 (getS s a 0).2])) := by
  have ix : ∀ w, (Instr.index 110 widAll (.int .i64 0)).run Tryd.prog w = .ok (.agg (wcells 0)) w := fun _ => by kernel_rfl
  go_enter Tryd.func64, Tryd.ntmps64
  go_wp2_with (first | (go_at_call 73; refine (widths_c _).mono ?_; rintro e w1 ⟨rfl, hb1⟩) | (go_at_call 72; refine (get_c _ _ _ _).mono ?_; rintro e w2 ⟨rfl, hb2⟩))
  go_ret2
  exact ⟨rfl, (by repeat (first | exact Ext.refl _ | assumption | apply Ext.alloc | apply Ext.drew | apply Ext.drewN | apply Ext.bytes | apply Ext.iter | refine Ext.setCell ?_ (by simp; omega) _ | refine Ext.trans ?_ (by assumption)))⟩
set_option maxHeartbeats 400000 in
theorem PutU8_c (n : Int) (w : World) : Calls Tryd.prog 68 #[.int .i64 n] w
    (Ret w (.tuple #[.string (putS (widOct 0) (widLow 0) (widHigh 0) n).1, .int .i64 (putS (widOct 0) (widLow 0) (widHigh 0) n).2])) := by
  have ix : ∀ w, (Instr.index 110 widAll (.int .i64 0)).run Tryd.prog w = .ok (.agg (wcells 0)) w := fun _ => by kernel_rfl
  go_enter Tryd.func68, Tryd.ntmps68
  go_wp2_with (first | (go_at_call 73; refine (widths_c _).mono ?_; rintro e w1 ⟨rfl, hb1⟩) | (go_at_call 95; refine (put_c _ _ _).mono ?_; rintro e w2 ⟨rfl, hb2⟩))
  go_ret2
  exact ⟨rfl, (by repeat (first | exact Ext.refl _ | assumption | apply Ext.alloc | apply Ext.drew | apply Ext.drewN | apply Ext.bytes | apply Ext.iter | refine Ext.setCell ?_ (by simp; omega) _ | refine Ext.trans ?_ (by assumption)))⟩
set_option maxHeartbeats 400000 in
theorem U16_c (s : ByteArray) (a : Int) (w : World) : Calls Tryd.prog 35 #[.string s, .int .i64 a] w (Ret w (.tuple #[.int .i64 (getS s a 1).1, .int .i64 (getS s a 1).2])) := by
  have ix : ∀ w, (Instr.index 110 widAll (.int .i64 1)).run Tryd.prog w = .ok (.agg (wcells 1)) w := fun _ => by kernel_rfl
  go_enter Tryd.func35, Tryd.ntmps35
  go_wp2_with (first | (go_at_call 73; refine (widths_c _).mono ?_; rintro e w1 ⟨rfl, hb1⟩) | (go_at_call 72; refine (get_c _ _ _ _).mono ?_; rintro e w2 ⟨rfl, hb2⟩))
  go_ret2
  exact ⟨rfl, (by repeat (first | exact Ext.refl _ | assumption | apply Ext.alloc | apply Ext.drew | apply Ext.drewN | apply Ext.bytes | apply Ext.iter | refine Ext.setCell ?_ (by simp; omega) _ | refine Ext.trans ?_ (by assumption)))⟩
set_option maxHeartbeats 400000 in
theorem PutU16_c (n : Int) (w : World) : Calls Tryd.prog 65 #[.int .i64 n] w
    (Ret w (.tuple #[.string (putS (widOct 1) (widLow 1) (widHigh 1) n).1, .int .i64 (putS (widOct 1) (widLow 1) (widHigh 1) n).2])) := by
  have ix : ∀ w, (Instr.index 110 widAll (.int .i64 1)).run Tryd.prog w = .ok (.agg (wcells 1)) w := fun _ => by kernel_rfl
  go_enter Tryd.func65, Tryd.ntmps65
  go_wp2_with (first | (go_at_call 73; refine (widths_c _).mono ?_; rintro e w1 ⟨rfl, hb1⟩) | (go_at_call 95; refine (put_c _ _ _).mono ?_; rintro e w2 ⟨rfl, hb2⟩))
  go_ret2
  exact ⟨rfl, (by repeat (first | exact Ext.refl _ | assumption | apply Ext.alloc | apply Ext.drew | apply Ext.drewN | apply Ext.bytes | apply Ext.iter | refine Ext.setCell ?_ (by simp; omega) _ | refine Ext.trans ?_ (by assumption)))⟩
set_option maxHeartbeats 400000 in
theorem U32_c (s : ByteArray) (a : Int) (w : World) : Calls Tryd.prog 37 #[.string s, .int .i64 a] w (Ret w (.tuple #[.int .i64 (getS s a 2).1, .int .i64 (getS s a 2).2])) := by
  have ix : ∀ w, (Instr.index 110 widAll (.int .i64 2)).run Tryd.prog w = .ok (.agg (wcells 2)) w := fun _ => by kernel_rfl
  go_enter Tryd.func37, Tryd.ntmps37
  go_wp2_with (first | (go_at_call 73; refine (widths_c _).mono ?_; rintro e w1 ⟨rfl, hb1⟩) | (go_at_call 72; refine (get_c _ _ _ _).mono ?_; rintro e w2 ⟨rfl, hb2⟩))
  go_ret2
  exact ⟨rfl, (by repeat (first | exact Ext.refl _ | assumption | apply Ext.alloc | apply Ext.drew | apply Ext.drewN | apply Ext.bytes | apply Ext.iter | refine Ext.setCell ?_ (by simp; omega) _ | refine Ext.trans ?_ (by assumption)))⟩
set_option maxHeartbeats 400000 in
theorem S32_c (s : ByteArray) (a : Int) (w : World) : Calls Tryd.prog 62 #[.string s, .int .i64 a] w (Ret w (.tuple #[.int .i64 (getS s a 3).1, .int .i64 (getS s a 3).2])) := by
  have ix : ∀ w, (Instr.index 110 widAll (.int .i64 3)).run Tryd.prog w = .ok (.agg (wcells 3)) w := fun _ => by kernel_rfl
  go_enter Tryd.func62, Tryd.ntmps62
  go_wp2_with (first | (go_at_call 73; refine (widths_c _).mono ?_; rintro e w1 ⟨rfl, hb1⟩) | (go_at_call 72; refine (get_c _ _ _ _).mono ?_; rintro e w2 ⟨rfl, hb2⟩))
  go_ret2
  exact ⟨rfl, (by repeat (first | exact Ext.refl _ | assumption | apply Ext.alloc | apply Ext.drew | apply Ext.drewN | apply Ext.bytes | apply Ext.iter | refine Ext.setCell ?_ (by simp; omega) _ | refine Ext.trans ?_ (by assumption)))⟩
set_option maxHeartbeats 400000 in
theorem PutS32_c (n : Int) (w : World) : Calls Tryd.prog 66 #[.int .i64 n] w
    (Ret w (.tuple #[.string (putS (widOct 3) (widLow 3) (widHigh 3) n).1, .int .i64 (putS (widOct 3) (widLow 3) (widHigh 3) n).2])) := by
  have ix : ∀ w, (Instr.index 110 widAll (.int .i64 3)).run Tryd.prog w = .ok (.agg (wcells 3)) w := fun _ => by kernel_rfl
  go_enter Tryd.func66, Tryd.ntmps66
  go_wp2_with (first | (go_at_call 73; refine (widths_c _).mono ?_; rintro e w1 ⟨rfl, hb1⟩) | (go_at_call 95; refine (put_c _ _ _).mono ?_; rintro e w2 ⟨rfl, hb2⟩))
  go_ret2
  exact ⟨rfl, (by repeat (first | exact Ext.refl _ | assumption | apply Ext.alloc | apply Ext.drew | apply Ext.drewN | apply Ext.bytes | apply Ext.iter | refine Ext.setCell ?_ (by simp; omega) _ | refine Ext.trans ?_ (by assumption)))⟩
end Go.Proofs.YtimecmleaeimkaaDoor
