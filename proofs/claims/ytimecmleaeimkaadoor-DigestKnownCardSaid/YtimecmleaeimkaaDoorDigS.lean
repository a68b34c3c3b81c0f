/- The octets of four numbers. -/
import Derived.Test.YtimecmleaeimkaaDoorDigB
namespace Go.Proofs.YtimecmleaeimkaaDoor
open Go.RowKit
set_option linter.unusedVariables false
def oct16 (a b c d : Int) : Array Value := #[.int .u8 (a % 256), .int .u8 (a / 256 % 256), .int .u8 (a / 65536 % 256), .int .u8 (a / 16777216 % 256), .int .u8 (b % 256), .int .u8 (b / 256 % 256), .int .u8 (b / 65536 % 256), .int .u8 (b / 16777216 % 256),
  .int .u8 (c % 256), .int .u8 (c / 256 % 256), .int .u8 (c / 65536 % 256), .int .u8 (c / 16777216 % 256), .int .u8 (d % 256), .int .u8 (d / 256 % 256), .int .u8 (d / 65536 % 256), .int .u8 (d / 16777216 % 256)]
set_option maxHeartbeats 4000000 in
set_option maxRecDepth 100000 in
theorem sum_c (a b c d : Int) (ha : U a) (hb : U b) (hc : U c) (hd : U d) (g : Nat) (w : World) (c0 : w.cell? ⟨g, 0, none⟩ = some (.int .u32 a)) (c1 : w.cell? ⟨g, 1, none⟩ = some (.int .u32 b)) (c2 : w.cell? ⟨g, 2, none⟩ = some (.int .u32 c)) (c3 : w.cell? ⟨g, 3, none⟩ = some (.int .u32 d)) :
    Calls Tryd.prog 56 #[.pointer (some ⟨g, 0, none⟩)] w (Ret w (.agg (oct16 a b c d))) := by
  have hg := World.block_lt_of_cell? w _ c0
  simp only at hg
  go_enter Tryd.func56, Tryd.ntmps56
  go_wp2
  refine wp_loop_rounds 17 ?_
  rw [rounds_succ]; go_wp2
  rw [rounds_succ]; go_wp2
  rw [rounds_succ]; go_wp2
  rw [rounds_succ]; go_wp2
  rw [rounds_succ]; go_wp2
  rw [rounds_succ]; go_wp2
  rw [rounds_succ]; go_wp2
  rw [rounds_succ]; go_wp2
  rw [rounds_succ]; go_wp2
  rw [rounds_succ]; go_wp2
  rw [rounds_succ]; go_wp2
  rw [rounds_succ]; go_wp2
  rw [rounds_succ]; go_wp2
  rw [rounds_succ]; go_wp2
  rw [rounds_succ]; go_wp2
  rw [rounds_succ]; go_wp2
  rw [rounds_succ]; go_wp2
  refine bodyPost_ret (v := .agg (oct16 a b c d)) (by simp [results, Tryd.results56, go_sem, oct16]) rfl ⟨rfl, (by repeat (first | exact Ext.refl _ | assumption | apply Ext.alloc | apply Ext.drew | apply Ext.drewN | apply Ext.bytes | apply Ext.iter | refine Ext.setCell ?_ (by simp; omega) _ | refine Ext.trans ?_ (by assumption)))⟩
end Go.Proofs.YtimecmleaeimkaaDoor
