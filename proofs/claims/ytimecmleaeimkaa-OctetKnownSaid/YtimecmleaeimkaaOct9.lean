/- The chapter's examples: works. -/
import Derived.Test.YtimecmleaeimkaaOct8
namespace Go.Proofs.Ytimecmleaeimkaa
open Go.RowKit
set_option linter.unusedVariables false
attribute [local go_sem] clo

theorem ex0 : getS ⟨#[1, 2, 3]⟩ (1) 1 = (515, 0) := by decide +kernel
theorem ex1 : getS ⟨#[255, 255, 255, 254]⟩ (0) 2 = (4294967294, 0) := by decide +kernel
theorem ex2 : getS ⟨#[255, 255, 255, 254]⟩ (0) 3 = (-2, 0) := by decide +kernel
theorem ex3 : getS ⟨#[]⟩ (0) 0 = (0, 70) := by decide +kernel
theorem ex4 : getS ⟨#[1, 2, 3]⟩ (2) 1 = (0, 70) := by decide +kernel
theorem ex5 : getS ⟨#[1]⟩ (-1) 0 = (0, 2) := by decide +kernel
theorem ex6 : putS (widOct 1) (widLow 1) (widHigh 1) (515) = (⟨#[2, 3]⟩, 0) := by decide +kernel
theorem ex7 : putS (widOct 3) (widLow 3) (widHigh 3) (-2) = (⟨#[255, 255, 255, 254]⟩, 0) := by decide +kernel
theorem ex8 : putS (widOct 0) (widLow 0) (widHigh 0) (256) = (⟨#[]⟩, 2) := by decide +kernel
theorem ex9 : textS ⟨#[97, 98, 0, 0]⟩ (0) (4) = (⟨#[97, 98]⟩, 0) := by decide +kernel
theorem ex10 : textS ⟨#[97, 0, 98, 0]⟩ (0) (4) = (⟨#[]⟩, 5) := by decide +kernel
theorem ex11 : textS ⟨#[97, 10, 0, 0]⟩ (0) (4) = (⟨#[]⟩, 5) := by decide +kernel
theorem ex12 : textS ⟨#[97, 98]⟩ (0) (2) = (⟨#[97, 98]⟩, 0) := by decide +kernel
theorem ex13 : putTextS ⟨#[97, 98]⟩ (4) = (⟨#[97, 98, 0, 0]⟩, 0) := by decide +kernel
theorem ex14 : putTextS ⟨#[97, 98, 99]⟩ (2) = (⟨#[]⟩, 3) := by decide +kernel
theorem ex15 : padS ⟨#[97, 98, 99]⟩ (4) = (⟨#[97, 98, 99, 0]⟩, 0) := by decide +kernel
theorem ex16 : padS ⟨#[97, 98, 99, 100]⟩ (4) = (⟨#[97, 98, 99, 100]⟩, 0) := by decide +kernel
theorem ex17 : partS ⟨#[97, 98, 99]⟩ (1) (1) = (⟨#[98]⟩, 0) := by decide +kernel

set_option maxHeartbeats 4000000 in
set_option maxRecDepth 100000 in
theorem works_c (w : World) : Calls Try.prog 5 #[] w (Ret w (.bool true)) := by
  have v0 := ex0
  have v1 := ex1
  have v2 := ex2
  have v3 := ex3
  have v4 := ex4
  have v5 := ex5
  have v6 := ex6
  have v7 := ex7
  have v8 := ex8
  have v9 := ex9
  have v10 := ex10
  have v11 := ex11
  have v12 := ex12
  have v13 := ex13
  have v14 := ex14
  have v15 := ex15
  have v16 := ex16
  have v17 := ex17
  go_enter Try.func5, Try.ntmps5
  go_wp2_with (first | (go_at_call 20; refine (says_c _ _).mono ?_; rintro e w1 ⟨g, rfl, hc, hb⟩) | (go_at_call 42; refine (says1_c _ _ _ _ _ (by first | assumption | exact Ext.cell (by assumption) (by assumption))).mono ?_; rintro e w1 ⟨rfl, hb⟩) | (go_at_call 22; refine (stops_c _ _).mono ?_; rintro e w1 ⟨g, rfl, hc, hb⟩) | (go_at_call 44; refine (stops1_c _ _ _ _ _ (by first | assumption | exact Ext.cell (by assumption) (by assumption))).mono ?_; rintro e w1 ⟨rfl, hb⟩) | (go_at_call 25; refine (is_c _ _).mono ?_; rintro e w1 ⟨g, rfl, hc, hb⟩) | (go_at_call 45; refine (is1_c _ _ _ _ _ (by first | assumption | exact Ext.cell (by assumption) (by assumption))).mono ?_; rintro e w1 ⟨rfl, hb⟩) | (go_at_call 27; refine (fails_c _ _).mono ?_; rintro e w1 ⟨g, rfl, hc, hb⟩) | (go_at_call 46; refine (fails1_c _ _ _ _ _ (by first | assumption | exact Ext.cell (by assumption) (by assumption))).mono ?_; rintro e w1 ⟨rfl, hb⟩) | (go_at_call 21; refine (U8_c _ _ _).mono ?_; rintro e w1 ⟨rfl, hb⟩) | (go_at_call 29; refine (U16_c _ _ _).mono ?_; rintro e w1 ⟨rfl, hb⟩) | (go_at_call 23; refine (U32_c _ _ _).mono ?_; rintro e w1 ⟨rfl, hb⟩) | (go_at_call 24; refine (S32_c _ _ _).mono ?_; rintro e w1 ⟨rfl, hb⟩) | (go_at_call 6; refine (PutU8_c _ _).mono ?_; rintro e w1 ⟨rfl, hb⟩) | (go_at_call 7; refine (PutU16_c _ _).mono ?_; rintro e w1 ⟨rfl, hb⟩) | (go_at_call 8; refine (PutU32_c _ _).mono ?_; rintro e w1 ⟨rfl, hb⟩) | (go_at_call 9; refine (PutS32_c _ _).mono ?_; rintro e w1 ⟨rfl, hb⟩) | (go_at_call 26; refine (Part_c _ _ _ _).mono ?_; rintro e w1 ⟨rfl, hb⟩) | (go_at_call 28; refine (Text_c _ _ _ (by decide) _).mono ?_; rintro e w1 ⟨rfl, hb⟩) | (go_at_call 15; refine (PutText_c _ _ (by decide) _).mono ?_; rintro e w1 ⟨rfl, hb⟩) | (go_at_call 17; refine (Pad_c _ _ (by decide) _).mono ?_; rintro e w1 ⟨rfl, hb⟩))
  go_ret
  exact ⟨rfl, (by repeat (first | exact Ext.refl _ | assumption | apply Ext.alloc | apply Ext.drew | apply Ext.drewN | apply Ext.bytes | apply Ext.iter | refine Ext.setCell ?_ (by simp; omega) _ | refine Ext.trans ?_ (by assumption)))⟩
end Go.Proofs.Ytimecmleaeimkaa
