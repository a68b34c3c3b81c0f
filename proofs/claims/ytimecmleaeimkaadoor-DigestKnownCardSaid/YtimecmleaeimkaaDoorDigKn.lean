/- DigestKnown's walk. -/
import Derived.Test.YtimecmleaeimkaaDoorDigPl
import Derived.Test.YtimecmleaeimkaaDoorDigBn
import Derived.Test.YtimecmleaeimkaaDoorDigPe
namespace Go.Proofs.YtimecmleaeimkaaDoor
open Go.RowKit
open Go.Deep (blk_setCell_other)
set_option linter.unusedVariables false
theorem md_26 : md ⟨#[97, 98, 99, 100, 101, 102, 103, 104, 105, 106, 107, 108, 109, 110, 111, 112, 113, 114, 115, 116, 117, 118, 119, 120, 121, 122]⟩ = ⟨#[99, 51, 102, 99, 100, 51, 100, 55, 54, 49, 57, 50, 101, 52, 48, 48, 55, 100, 102, 98, 52, 57, 54, 99, 99, 97, 54, 55, 101, 49, 51, 98]⟩ := by decide +kernel
theorem md_62 : md ⟨#[65, 66, 67, 68, 69, 70, 71, 72, 73, 74, 75, 76, 77, 78, 79, 80, 81, 82, 83, 84, 85, 86, 87, 88, 89, 90, 97, 98, 99, 100, 101, 102, 103, 104, 105, 106, 107, 108, 109, 110, 111, 112, 113, 114, 115, 116, 117, 118, 119, 120, 121, 122, 48, 49, 50, 51, 52, 53, 54, 55, 56, 57]⟩ = ⟨#[100, 49, 55, 52, 97, 98, 57, 56, 100, 50, 55, 55, 100, 57, 102, 53, 97, 53, 54, 49, 49, 99, 50, 99, 57, 102, 52, 49, 57, 100, 57, 102]⟩ := by decide +kernel
theorem md_80 : md ⟨#[49, 50, 51, 52, 53, 54, 55, 56, 57, 48, 49, 50, 51, 52, 53, 54, 55, 56, 57, 48, 49, 50, 51, 52, 53, 54, 55, 56, 57, 48, 49, 50, 51, 52, 53, 54, 55, 56, 57, 48, 49, 50, 51, 52, 53, 54, 55, 56, 57, 48, 49, 50, 51, 52, 53, 54, 55, 56, 57, 48, 49, 50, 51, 52, 53, 54, 55, 56, 57, 48, 49, 50, 51, 52, 53, 54, 55, 56, 57, 48]⟩ = ⟨#[53, 55, 101, 100, 102, 52, 97, 50, 50, 98, 101, 51, 99, 57, 53, 53, 97, 99, 52, 57, 100, 97, 50, 101, 50, 49, 48, 55, 98, 54, 55, 97]⟩ := by decide +kernel
theorem rep_80 (w : World) : Calls Tryd.prog 28 #[.string ⟨#[49, 50, 51, 52, 53, 54, 55, 56, 57, 48]⟩, .int .i64 8] w (Ret w (.string ⟨#[49, 50, 51, 52, 53, 54, 55, 56, 57, 48, 49, 50, 51, 52, 53, 54, 55, 56, 57, 48, 49, 50, 51, 52, 53, 54, 55, 56, 57, 48, 49, 50, 51, 52, 53, 54, 55, 56, 57, 48, 49, 50, 51, 52, 53, 54, 55, 56, 57, 48, 49, 50, 51, 52, 53, 54, 55, 56, 57, 48, 49, 50, 51, 52, 53, 54, 55, 56, 57, 48, 49, 50, 51, 52, 53, 54, 55, 56, 57, 48]⟩)) := Tryd.strings_Repeat ⟨#[49, 50, 51, 52, 53, 54, 55, 56, 57, 48]⟩ 8 w (by decide) (by decide)
theorem rep_0_33 (w : World) : Calls Tryd.prog 28 #[.string ⟨#[48]⟩, .int .i64 33] w (Ret w (.string ⟨#[48, 48, 48, 48, 48, 48, 48, 48, 48, 48, 48, 48, 48, 48, 48, 48, 48, 48, 48, 48, 48, 48, 48, 48, 48, 48, 48, 48, 48, 48, 48, 48, 48]⟩)) := Tryd.strings_Repeat ⟨#[48]⟩ 33 w (by decide) (by decide)
theorem rep_g_32 (w : World) : Calls Tryd.prog 28 #[.string ⟨#[103]⟩, .int .i64 32] w (Ret w (.string ⟨#[103, 103, 103, 103, 103, 103, 103, 103, 103, 103, 103, 103, 103, 103, 103, 103, 103, 103, 103, 103, 103, 103, 103, 103, 103, 103, 103, 103, 103, 103, 103, 103]⟩)) := Tryd.strings_Repeat ⟨#[103]⟩ 32 w (by decide) (by decide)
theorem rep_0_31 (w : World) : Calls Tryd.prog 28 #[.string ⟨#[48]⟩, .int .i64 31] w (Ret w (.string ⟨#[48, 48, 48, 48, 48, 48, 48, 48, 48, 48, 48, 48, 48, 48, 48, 48, 48, 48, 48, 48, 48, 48, 48, 48, 48, 48, 48, 48, 48, 48, 48]⟩)) := Tryd.strings_Repeat ⟨#[48]⟩ 31 w (by decide) (by decide)
theorem unh_f : unhS ⟨#[102, 102, 102, 102, 102, 102, 102, 102, 102, 102, 102, 102, 102, 102, 102, 102, 102, 102, 102, 102, 102, 102, 102, 102, 102, 102, 102, 102, 102, 102, 48, 48]⟩ = (#[.int .u8 255, .int .u8 255, .int .u8 255, .int .u8 255, .int .u8 255, .int .u8 255, .int .u8 255, .int .u8 255, .int .u8 255, .int .u8 255, .int .u8 255, .int .u8 255, .int .u8 255, .int .u8 255, .int .u8 255, .int .u8 0], 0) := by kernel_rfl

theorem eql_row0 (w : World) : (binOp .eql 28 (.agg row0) (.agg #[.int .u8 0, .int .u8 0, .int .u8 0, .int .u8 0, .int .u8 0, .int .u8 0, .int .u8 0, .int .u8 0, .int .u8 0, .int .u8 0, .int .u8 0, .int .u8 0, .int .u8 0, .int .u8 0, .int .u8 0, .int .u8 0])).run Tryd.prog w = .ok (.bool true) w :=
  run_eql_ints w .u8 28 5 16 Tryd.underlying28 Tryd.underlying5 (fun w => by kernel_rfl) (List.replicate 16 0) (List.replicate 16 0) rfl rfl
theorem neq_row0 (w : World) : (binOp .neq 28 (.agg row0) (.agg #[.int .u8 0, .int .u8 0, .int .u8 0, .int .u8 0, .int .u8 0, .int .u8 0, .int .u8 0, .int .u8 0, .int .u8 0, .int .u8 0, .int .u8 0, .int .u8 0, .int .u8 0, .int .u8 0, .int .u8 0, .int .u8 0])).run Tryd.prog w = .ok (.bool false) w :=
  run_neq_ints w .u8 28 5 16 Tryd.underlying28 Tryd.underlying5 (fun w => by kernel_rfl) (List.replicate 16 0) (List.replicate 16 0) rfl rfl
end Go.Proofs.YtimecmleaeimkaaDoor
