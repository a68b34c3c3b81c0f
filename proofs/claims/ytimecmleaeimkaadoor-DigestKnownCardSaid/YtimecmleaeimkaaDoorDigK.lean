/- Four numbers as integers and back. -/
import Derived.Test.YtimecmleaeimkaaDoorDigC
namespace Go.Proofs.YtimecmleaeimkaaDoor
open Go.RowKit
set_option linter.unusedVariables false

def q32 (a b c d : Int) : Value := .agg #[.int .u32 a, .int .u32 b, .int .u32 c, .int .u32 d]
def q64 (a b c d : Int) : Value := .agg #[.int .i64 a, .int .i64 b, .int .i64 c, .int .i64 d]
attribute [local go_sem] q32 q64
set_option maxHeartbeats 1000000 in
set_option maxRecDepth 100000 in
theorem kept_c (a b c d : Int) (ha : U a) (hb : U b) (hc : U c) (hd : U d) (w : World) : Calls Tryd.prog 50 #[q32 a b c d] w (Ret w (q64 a b c d)) := by
  unfold U at *
  have w1 : IntKind.i64.wrap a = a := IntWalk.i64_in _ (by omega)
  have w2 : IntKind.i64.wrap b = b := IntWalk.i64_in _ (by omega)
  have w3 : IntKind.i64.wrap c = c := IntWalk.i64_in _ (by omega)
  have w4 : IntKind.i64.wrap d = d := IntWalk.i64_in _ (by omega)
  have ix0 : ∀ w, (Instr.index 85 (.agg #[.int .u32 a, .int .u32 b, .int .u32 c, .int .u32 d]) (.int .i64 0)).run Tryd.prog w = .ok (.int .u32 a) w := fun _ => by kernel_rfl
  have ix1 : ∀ w, (Instr.index 85 (.agg #[.int .u32 a, .int .u32 b, .int .u32 c, .int .u32 d]) (.int .i64 1)).run Tryd.prog w = .ok (.int .u32 b) w := fun _ => by kernel_rfl
  have ix2 : ∀ w, (Instr.index 85 (.agg #[.int .u32 a, .int .u32 b, .int .u32 c, .int .u32 d]) (.int .i64 2)).run Tryd.prog w = .ok (.int .u32 c) w := fun _ => by kernel_rfl
  have ix3 : ∀ w, (Instr.index 85 (.agg #[.int .u32 a, .int .u32 b, .int .u32 c, .int .u32 d]) (.int .i64 3)).run Tryd.prog w = .ok (.int .u32 d) w := fun _ => by kernel_rfl
  unfold q32 q64
  go_enter Tryd.func50, Tryd.ntmps50
  go_wp2
  refine wp_loop_rounds 5 ?_
  rw [rounds_succ]; go_wp2
  rw [rounds_succ]; go_wp2
  rw [rounds_succ]; go_wp2
  rw [rounds_succ]; go_wp2
  rw [rounds_succ]; go_wp2
  refine bodyPost_ret (v := q64 a b c d) (by simp [results, Tryd.results50, go_sem]) rfl ⟨rfl, (by repeat (first | exact Ext.refl _ | assumption | apply Ext.alloc | apply Ext.drew | apply Ext.drewN | apply Ext.bytes | apply Ext.iter | refine Ext.setCell ?_ (by simp; omega) _ | refine Ext.trans ?_ (by assumption)))⟩
set_option maxHeartbeats 1000000 in
set_option maxRecDepth 100000 in
theorem used_c (a b c d : Int) (w : World) : Calls Tryd.prog 52 #[q64 a b c d] w (Ret w (q32 (a % 4294967296) (b % 4294967296) (c % 4294967296) (d % 4294967296))) := by
  have w1 := IntKind.wrap_u32 a
  have w2 := IntKind.wrap_u32 b
  have w3 := IntKind.wrap_u32 c
  have w4 := IntKind.wrap_u32 d
  have ix0 : ∀ w, (Instr.index 39 (.agg #[.int .i64 a, .int .i64 b, .int .i64 c, .int .i64 d]) (.int .i64 0)).run Tryd.prog w = .ok (.int .i64 a) w := fun _ => by kernel_rfl
  have ix1 : ∀ w, (Instr.index 39 (.agg #[.int .i64 a, .int .i64 b, .int .i64 c, .int .i64 d]) (.int .i64 1)).run Tryd.prog w = .ok (.int .i64 b) w := fun _ => by kernel_rfl
  have ix2 : ∀ w, (Instr.index 39 (.agg #[.int .i64 a, .int .i64 b, .int .i64 c, .int .i64 d]) (.int .i64 2)).run Tryd.prog w = .ok (.int .i64 c) w := fun _ => by kernel_rfl
  have ix3 : ∀ w, (Instr.index 39 (.agg #[.int .i64 a, .int .i64 b, .int .i64 c, .int .i64 d]) (.int .i64 3)).run Tryd.prog w = .ok (.int .i64 d) w := fun _ => by kernel_rfl
  unfold q32 q64
  go_enter Tryd.func52, Tryd.ntmps52
  go_wp2
  refine wp_loop_rounds 5 ?_
  rw [rounds_succ]; go_wp2
  rw [rounds_succ]; go_wp2
  rw [rounds_succ]; go_wp2
  rw [rounds_succ]; go_wp2
  rw [rounds_succ]; go_wp2
  refine bodyPost_ret (v := q32 (a % 4294967296) (b % 4294967296) (c % 4294967296) (d % 4294967296)) (by simp [results, Tryd.results52, go_sem]) rfl ⟨rfl, (by repeat (first | exact Ext.refl _ | assumption | apply Ext.alloc | apply Ext.drew | apply Ext.drewN | apply Ext.bytes | apply Ext.iter | refine Ext.setCell ?_ (by simp; omega) _ | refine Ext.trans ?_ (by assumption)))⟩
end Go.Proofs.YtimecmleaeimkaaDoor
