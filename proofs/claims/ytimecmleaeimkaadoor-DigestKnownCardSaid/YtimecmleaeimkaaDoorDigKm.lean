/- DigestKnown's walk. -/
import Derived.Test.YtimecmleaeimkaaDoorDigKa
namespace Go.Proofs.YtimecmleaeimkaaDoor
open Go.RowKit
open Go.Deep (blk_setCell_other)
set_option linter.unusedVariables false
set_option maxHeartbeats 20000000 in
set_option maxRecDepth 100000 in
theorem DigestKnown_c (w : World) : Calls Tryd.prog 8 #[] w (Ret w (.bool true)) := by
  have HI0 := Hd.mk (fun w => is_c _ _ (by decide) md_26 w)
  have HI1 := Hd.mk (fun w => is_c _ _ (by decide) md_62 w)
  have HI2 := Hd.mk (fun w => is_c _ _ (by decide) md_80 w)
  have HR80 := Hd.mk rep_80
  have hRA := fun w => Tryd.strings_Repeat ⟨#[97]⟩ 65536 w (by decide) (by decide)
  change ∀ w, Calls _ _ _ w fun e w' => e = .returned (.string (repS ⟨#[97]⟩ 65536)) ∧ Ext w w' at hRA
  have hAs : (repS ⟨#[97]⟩ 65536).size = 65536 := by rw [repS_size]; rfl
  generalize repS ⟨#[97]⟩ 65536 = A at *
  have hS1 := fun w => sumP_c A (by omega) w
  rw [sumS_row, sumS_ok (by omega)] at hS1
  have h1a : (⟨#[97]⟩ : ByteArray).size = 1 := rfl
  have hS2 := fun w => sumP_c (A ++ ⟨#[97]⟩) (by rw [ByteArray.size_append]; omega) w
  rw [show sumS (A ++ ⟨#[97]⟩) = (row0, 3) by unfold sumS; rw [if_pos (by rw [ByteArray.size_append]; omega)]] at hS2
  have hM1 := fun w => moreP_c .new A (by decide) (by omega) w
  rw [← stt_none, more_stt _ _ (by show 0 + A.size ≤ 65536; omega), empty_append] at hM1
  have hM2 := fun w => moreP_c (stt A) ⟨#[]⟩ (by show (tl A).size ≤ _; rw [tl_size]; omega) (by decide) w
  rw [more_stt _ _ (by show A.size + 0 ≤ 65536; omega), show A ++ ⟨#[]⟩ = A from ByteArray.append_empty] at hM2
  have hM3 := fun w => moreP_c (stt A) ⟨#[97]⟩ (by show (tl A).size ≤ _; rw [tl_size]; omega) (by decide) w
  rw [more_long _ _ (by omega) (by omega)] at hM3
  have hD1 := fun w => doneP_c (stt A) w
  rw [done_stt _ (by omega), sumS_row, sumS_ok (by omega)] at hD1
  have hq1 := eql_dg (stt A)
  have hq2 := eql_dg .new
  have hN := newP_c
  have hC := fun w => checkP_c begin4 0 ⟨#[]⟩ w
  rw [show checkS begin4 0 ⟨#[]⟩ = 0 by decide +kernel] at hC
  have hAl : (stt A).l = 65536 := by show (A.size : Int) = 65536; omega
  have hAr : (stt A).r = ⟨#[]⟩ := by
    show tl A = _
    apply ByteArray.ext
    refine Array.eq_empty_of_size_eq_zero ?_
    show (tl A).size = 0
    rw [tl_size]; omega
  simp only [Dg.v, Dg.new, dgV, stt_none] at hM1 hM2 hM3 hD1 hq1 hq2 hN hC
  rw [hAl, hAr] at hM1 hM2 hM3 hD1 hq1
  have hRs : (dgL (stt A).x 65536 ⟨#[]⟩).size = 6 := rfl
  have hRo := dgL_one (stt A).x 65536 ⟨#[]⟩
  have hR4 : (dgL (stt A).x 65536 ⟨#[]⟩)[4]? = some (.int .i64 65536) := rfl
  have hR5 : (dgL (stt A).x 65536 ⟨#[]⟩)[5]? = some (.string ⟨#[]⟩) := rfl
  have hTs := rowF_size (sumF A)
  have hTo := rowF_one (sumF A)
  generalize dgL (stt A).x 65536 ⟨#[]⟩ = R at *
  generalize rowF (sumF A) = T at *
  have HRA := Hd.mk hRA
  have HS1 := Hd.mk hS1
  have HS2 := Hd.mk hS2
  have HM1 := Hd.mk hM1
  have HM2 := Hd.mk hM2
  have HM3 := Hd.mk hM3
  have HD1 := Hd.mk hD1
  have HN := Hd.mk hN
  have HC := Hd.mk hC
  have Hrs := Hd.mk hRs
  have Hro := Hd.mk hRo
  have Hr4 := Hd.mk hR4
  have Hr5 := Hd.mk hR5
  have Hts := Hd.mk hTs
  have Hto := Hd.mk hTo
  have HAs := Hd.mk hAs
  have hq3 := eql_row0
  have g1 : ¬ 9223372036854775807 < A.size + 1 := by omega
  have g2 : ¬ 9223372036854775807 < A.size + A.size := by omega
  clear hRA hS1 hS2 hM1 hM2 hM3 hD1 hN hC hRs hRo hR4 hR5 hTs hTo hAs hAl hAr
  have hRB := fun w => Tryd.strings_Repeat ⟨#[97]⟩ 64 w (by decide) (by decide)
  change ∀ w, Calls _ _ _ w fun e w' => e = .returned (.string (repS ⟨#[97]⟩ 64)) ∧ Ext w w' at hRB
  have hBs : (repS ⟨#[97]⟩ 64).size = 64 := by rw [repS_size]; rfl
  generalize repS ⟨#[97]⟩ 64 = B at *
  have HRB := Hd.mk hRB
  have HBs := Hd.mk hBs
  clear hRB hBs
  have hqz : ∀ w, (binOp .neq 41 (.agg dgZ) (.agg #[.int .i64 0, .int .i64 0, .int .i64 0, .int .i64 0, .int .i64 0, .string ⟨#[]⟩])).run Tryd.prog w = .ok (.bool false) w := neq_dg .zero
  have hqr := neq_row0
  have hUf := fun w => unhexP_c ⟨#[102, 102, 102, 102, 102, 102, 102, 102, 102, 102, 102, 102, 102, 102, 102, 102, 102, 102, 102, 102, 102, 102, 102, 102, 102, 102, 102, 102, 102, 102, 48, 48]⟩ (by decide) w
  rw [unh_f] at hUf
  have HUf := Hd.mk hUf
  clear hUf
  go_enter Tryd.func8, Tryd.ntmps8
  go_upto_region 4 with (first | (go_at_call 11; refine (works_c _).mono ?_; rintro e w1 ⟨rfl, hb1⟩) | (go_at_call 29; first | ((with_reducible refine (HI0.out _).mono ?_); rintro e w2 ⟨rfl, hb2⟩) | ((with_reducible refine (HI1.out _).mono ?_); rintro e w3 ⟨rfl, hb3⟩) | ((with_reducible refine (HI2.out _).mono ?_); rintro e w5 ⟨rfl, hb5⟩)) | (go_at_call 28; refine (HR80.out _).mono ?_; rintro e w4 ⟨rfl, hb4⟩))
  have hE5 : Ext w w5 := Ext.trans (Ext.trans (Ext.trans (Ext.trans hb1 hb2) hb3) hb4) hb5
  clear hb1 hb2 hb3 hb4 hb5
  have hdz : dgL ⟨0, 0, 0, 0⟩ 0 ⟨#[]⟩ = dgZ := rfl
  go_upto_region 7 with (first | (go_at_call 28; refine (HRA.out _).mono ?_; rintro e w6 ⟨rfl, hb6⟩) | (go_at_call 13; first | ((with_reducible refine (HS1.out _).mono ?_); rintro e w7 ⟨rfl, hb7⟩; have r3_0 := Hd.mk (heap_alloc_new w7 (.cells (Array.replicate 16 (Value.int .u8 0)) 28)); have r3 := Hd.mk (setRow_heap _ _ _ T _ _ r3_0.out)) | ((with_reducible refine (HS2.out _).mono ?_); rintro e w8 ⟨rfl, hb8⟩; have r5_0 := Hd.mk (heap_alloc_new w8 (.cells (Array.replicate 16 (Value.int .u8 0)) 28)); have r5 := Hd.mk (setRow_heap _ _ _ row0 _ _ r5_0.out))) | (refine wpList_store_row rfl _ _ _ rfl w7.heap.size T rfl rfl _ _ r3_0.out (by rw [Hts.out]; kernel_rfl) (by rw [Hts.out]; rfl) Hto.out ?_) | (refine wpList_store_row rfl _ _ _ rfl w8.heap.size row0 rfl rfl _ _ r5_0.out (by rw [row0_size]; kernel_rfl) (by rw [row0_size]; rfl) row0_one ?_))
  have hE7 : Ext w w7 := Ext.trans (Ext.trans hE5 hb6) hb7
  have hE7' : Ext w ((w7.alloc (.cells (Array.replicate 16 (Value.int .u8 0)) 28)).setRow w7.heap.size T) := Ext.setRow (Ext.alloc hE7 (.cells (Array.replicate 16 (Value.int .u8 0)) 28)) (Ext.size hE7) T
  have hE8 : Ext w w8 := Ext.trans hE7' hb8
  have hy8 : Ext w ((w8.alloc (.cells (Array.replicate 16 (Value.int .u8 0)) 28)).setRow w8.heap.size row0) := Ext.setRow (Ext.alloc hE8 (.cells (Array.replicate 16 (Value.int .u8 0)) 28)) (Ext.size hE8) row0
  refine wp_name fun Y1 hY1 => ?_
  rw [show ((w8.alloc (.cells (Array.replicate 16 (Value.int .u8 0)) 28)).setRow w8.heap.size row0) = Y1 from hY1.out.symm] at r5 hy8
  clear hY1 hE7 hE7' hE8 hb6 hb7 hb8 r3 r3_0 r5_0 hE5
  go_upto_region 11 with (first | (go_at_call 21; refine (HN.out _).mono ?_; rintro e w9 ⟨rfl, hb9⟩) | (go_at_call 23; first | ((with_reducible refine (HM1.out _).mono ?_); rintro e wa ⟨rfl, hba⟩; have r7_0 := Hd.mk (heap_alloc_new wa (.cells #[.int .i64 0, .int .i64 0, .int .i64 0, .int .i64 0, .int .i64 0, .string ⟨#[]⟩] 41)); have r7 := Hd.mk (setRow_heap _ _ _ R _ _ r7_0.out)) | ((with_reducible refine (HM2.out _).mono ?_); rintro e wb ⟨rfl, hbb⟩; have r7b := Hd.mk (Ext.blk hbb r7.out); have r9_0 := Hd.mk (heap_alloc_new wb (.cells #[.int .i64 0, .int .i64 0, .int .i64 0, .int .i64 0, .int .i64 0, .string ⟨#[]⟩] 41)); have r9 := Hd.mk (setRow_heap _ _ _ R _ _ r9_0.out); have r7c := Hd.mk (Ext.blk (Ext.setRow (Ext.alloc (Ext.refl wb) (.cells #[.int .i64 0, .int .i64 0, .int .i64 0, .int .i64 0, .int .i64 0, .string ⟨#[]⟩] 41)) (Nat.le_refl _) R) r7b.out)) | ((with_reducible refine (HM3.out _).mono ?_); rintro e wc ⟨rfl, hbc⟩; have r7d := Hd.mk (Ext.blk hbc r7c.out); have r9d := Hd.mk (Ext.blk hbc r9.out); have r11_0 := Hd.mk (heap_alloc_new wc (.cells #[.int .i64 0, .int .i64 0, .int .i64 0, .int .i64 0, .int .i64 0, .string ⟨#[]⟩] 41)); have r11 := Hd.mk (setRow_heap _ _ _ dgZ _ _ r11_0.out); have r7e := Hd.mk (Ext.blk (Ext.setRow (Ext.alloc (Ext.refl wc) (.cells #[.int .i64 0, .int .i64 0, .int .i64 0, .int .i64 0, .int .i64 0, .string ⟨#[]⟩] 41)) (Nat.le_refl _) dgZ) r7d.out); have r9e := Hd.mk (Ext.blk (Ext.setRow (Ext.alloc (Ext.refl wc) (.cells #[.int .i64 0, .int .i64 0, .int .i64 0, .int .i64 0, .int .i64 0, .string ⟨#[]⟩] 41)) (Nat.le_refl _) dgZ) r9d.out))) | (go_at_call 24; refine (HD1.out _).mono ?_; rintro e wd ⟨rfl, hbd⟩; have r13_0 := Hd.mk (heap_alloc_new wd (.cells (Array.replicate 16 (Value.int .u8 0)) 28)); have r13 := Hd.mk (setRow_heap _ _ _ T _ _ r13_0.out)) | (refine wpList_store_row rfl _ _ _ rfl wa.heap.size R rfl rfl _ _ r7_0.out (by rw [Hrs.out]; kernel_rfl) (by rw [Hrs.out]; rfl) Hro.out ?_) | (refine wpList_store_row rfl _ _ _ rfl wb.heap.size R rfl rfl _ _ r9_0.out (by rw [Hrs.out]; kernel_rfl) (by rw [Hrs.out]; rfl) Hro.out ?_) | (refine wpList_store_row rfl _ _ _ rfl wc.heap.size dgZ rfl rfl _ _ r11_0.out (by rw [show dgZ.size = 6 from rfl]; kernel_rfl) (by rw [show dgZ.size = 6 from rfl]; rfl) dgZ_one ?_) | (refine wpList_store_row rfl _ _ _ rfl wd.heap.size T rfl rfl _ _ r13_0.out (by rw [Hts.out]; kernel_rfl) (by rw [Hts.out]; rfl) Hto.out ?_) | (refine wpList_load_row rfl _ _ rfl wa.heap.size rfl _ R (0, 0) _ r7.out Tryd.underlying41 rfl (by rw [Hrs.out]; kernel_rfl) ?_) | (refine wpList_load_row rfl _ _ rfl wa.heap.size rfl _ R (0, 0) _ r7c.out Tryd.underlying41 rfl (by rw [Hrs.out]; kernel_rfl) ?_) | (refine wpList_load_row rfl _ _ rfl wa.heap.size rfl _ R (0, 0) _ r7e.out Tryd.underlying41 rfl (by rw [Hrs.out]; kernel_rfl) ?_))
  have x1 : Ext w ((wa.alloc (.cells #[.int .i64 0, .int .i64 0, .int .i64 0, .int .i64 0, .int .i64 0, .string ⟨#[]⟩] 41)).setRow wa.heap.size R) := Ext.setRow (Ext.alloc (Ext.trans (Ext.trans hy8 hb9) hba) (.cells #[.int .i64 0, .int .i64 0, .int .i64 0, .int .i64 0, .int .i64 0, .string ⟨#[]⟩] 41)) (Ext.size (Ext.trans (Ext.trans hy8 hb9) hba)) R
  have x1y : Ext Y1 ((wa.alloc (.cells #[.int .i64 0, .int .i64 0, .int .i64 0, .int .i64 0, .int .i64 0, .string ⟨#[]⟩] 41)).setRow wa.heap.size R) := Ext.setRow (Ext.alloc (Ext.trans hb9 hba) (.cells #[.int .i64 0, .int .i64 0, .int .i64 0, .int .i64 0, .int .i64 0, .string ⟨#[]⟩] 41)) (Ext.size (Ext.trans hb9 hba)) R
  have x2 : Ext ((wa.alloc (.cells #[.int .i64 0, .int .i64 0, .int .i64 0, .int .i64 0, .int .i64 0, .string ⟨#[]⟩] 41)).setRow wa.heap.size R) ((wb.alloc (.cells #[.int .i64 0, .int .i64 0, .int .i64 0, .int .i64 0, .int .i64 0, .string ⟨#[]⟩] 41)).setRow wb.heap.size R) := Ext.setRow (Ext.alloc hbb (.cells #[.int .i64 0, .int .i64 0, .int .i64 0, .int .i64 0, .int .i64 0, .string ⟨#[]⟩] 41)) (Ext.size hbb) R
  have x3 : Ext ((wb.alloc (.cells #[.int .i64 0, .int .i64 0, .int .i64 0, .int .i64 0, .int .i64 0, .string ⟨#[]⟩] 41)).setRow wb.heap.size R) ((wc.alloc (.cells #[.int .i64 0, .int .i64 0, .int .i64 0, .int .i64 0, .int .i64 0, .string ⟨#[]⟩] 41)).setRow wc.heap.size dgZ) := Ext.setRow (Ext.alloc hbc (.cells #[.int .i64 0, .int .i64 0, .int .i64 0, .int .i64 0, .int .i64 0, .string ⟨#[]⟩] 41)) (Ext.size hbc) dgZ
  have x4 : Ext ((wc.alloc (.cells #[.int .i64 0, .int .i64 0, .int .i64 0, .int .i64 0, .int .i64 0, .string ⟨#[]⟩] 41)).setRow wc.heap.size dgZ) ((wd.alloc (.cells (Array.replicate 16 (Value.int .u8 0)) 28)).setRow wd.heap.size T) := Ext.setRow (Ext.alloc hbd (.cells (Array.replicate 16 (Value.int .u8 0)) 28)) (Ext.size hbd) T
  have hE2 : Ext w ((wd.alloc (.cells (Array.replicate 16 (Value.int .u8 0)) 28)).setRow wd.heap.size T) := Ext.trans (Ext.trans (Ext.trans x1 x2) x3) x4
  have p5 := Hd.mk (Ext.blk (Ext.trans (Ext.trans (Ext.trans x1y x2) x3) x4) r5.out)
  have p7 := Hd.mk (Ext.blk x4 r7e.out)
  have p9 := Hd.mk (Ext.blk x4 r9e.out)
  obtain ⟨g5, eg5⟩ : ∃ g, w8.heap.size = g := ⟨_, rfl⟩
  obtain ⟨g7, eg7⟩ : ∃ g, wa.heap.size = g := ⟨_, rfl⟩
  obtain ⟨g9, eg9⟩ : ∃ g, wb.heap.size = g := ⟨_, rfl⟩
  simp only [eg5, eg7, eg9]
  rw [eg5] at p5
  rw [eg7] at p7
  rw [eg9] at p9
  refine wp_name fun Y2 hY2 => ?_
  rw [show ((wd.alloc (.cells (Array.replicate 16 (Value.int .u8 0)) 28)).setRow wd.heap.size T) = Y2 from hY2.out.symm] at p5 p7 p9 hE2
  clear hY2 x1 x1y x2 x3 x4 hb9 hba hbb hbc hbd hy8 r5 r7 r7_0 r7b r7c r7d r7e r9 r9_0 r9d r9e r11 r11_0 r13 r13_0 eg5 eg7 eg9
  have hq2' : ∀ w, (binOp .eql 41 (.agg (dgL begin4 0 ⟨#[]⟩)) (.agg #[.int .i64 1732584193, .int .i64 4023233417, .int .i64 2562383102, .int .i64 271733878, .int .i64 0, .string ⟨#[]⟩])).run Tryd.prog w = .ok (.bool true) w := hq2
  clear hq2
  refine kn11 _ _ ?hckn11 g5 g7 g9 R Hrs.out Hr4.out Hr5.out hq1 p5.out p7.out p9.out _ _ _ _ _ _ _ _ _ _ _ _ _ _ _ _ _ _ _ _ _ _ _ _ _ _ _ _ _ _ _ _ _ _ _ _ _ _ _ _ _ _ _ _ _ _ _ _ _ _ _ _ _ _ _ _ _ _ _ _ _ _ _ _ _ _ _ _ _ _ _ _ _ _ _ _ _ _ _ _ _ _ _ _ _ _ _ _ _ _ _ _ _ _ _ _ _ _ _ _ _ _ _ _ _ _ _ _ _ _ _ _ _ _ _ _ _ _ _ _ _ _ _ _ _ _ _ _ _ _ _ _ _ _ _ _ _ _ _ _ _ _ _ _ _ _ _ _ _ _ _ _ _ _ _ _ _ _ _ _ _ _ _ _ _ _ _ _ _ _ _ _ _ _ _ _ _ _ _ _ _ _ _ _ _ _ _ _ _ _ _ _ _ _ _ _ _ _ _ _ _ _ _ _ ?_
  case hckn11 => kernel_rfl
  intro u67 u68 u69 u70 u71 u72 u73 u74 u75 u76 u77 u78 u79 u80 u81 u82 u83 u84 u85 u86 u87 u88 u89 u90 u91 u92 u93 u94 u95 u96 u97 u98 u99 u100 u101 u102 u103 u104 u105 u106 u107 u108 u109 u110 u111 W11 hE11
  have hE11' : Ext w W11 := Ext.trans hE2 hE11
  clear hE11 hE2 p5 p7 p9 hq1
  go_upto_region 12 with fail
  go_upto_region 13 with (first | (go_at_call 21; refine (HN.out _).mono ?_; rintro e we ⟨rfl, hbe⟩; have r15_0 := Hd.mk (heap_alloc_new we (.cells #[.int .i64 0, .int .i64 0, .int .i64 0, .int .i64 0, .int .i64 0, .string ⟨#[]⟩] 41)); have r15 := Hd.mk (setRow_heap _ _ _ (dgL begin4 0 ⟨#[]⟩) _ _ r15_0.out)) | (refine wpList_store_row rfl _ _ _ rfl we.heap.size (dgL begin4 0 ⟨#[]⟩) rfl rfl _ _ r15_0.out (by rw [show (dgL begin4 0 ⟨#[]⟩).size = 6 from rfl]; kernel_rfl) (by rw [show (dgL begin4 0 ⟨#[]⟩).size = 6 from rfl]; rfl) (dgL_one _ _ _) ?_))
  go_upto_region 14 with (first | (refine wpList_load_row_w rfl _ _ rfl we.heap.size rfl _ (dgL begin4 0 ⟨#[]⟩) (0, 0) _ r15.out Tryd.underlying41 rfl (by rw [show (dgL begin4 0 ⟨#[]⟩).size = 6 from rfl]; kernel_rfl) ?_) | (go_at_call 26; refine (HC.out _).mono ?_; rintro e wf ⟨rfl, hbf⟩))
  have hE3 : Ext w wf := Ext.trans (Ext.setRow (Ext.alloc (Ext.trans hE11' hbe) _) (Ext.size (Ext.trans hE11' hbe)) _) hbf
  clear hbe hbf r15 r15_0
  go_upto_region 15 with (go_at_call 28; refine (HRB.out _).mono ?_; rintro e wg ⟨rfl, hbg⟩)
  have hEg : Ext w wg := Ext.trans hE3 hbg
  clear hE3 hbg
  go_wp2
  go_loopw [135] (fun vi wr => ∃ k : Nat, k ≤ 6 ∧ vi = .int .i64 k ∧ Ext wg wr) (fun i _ => 6 - (intOf i).toNat)
  case atStart => exact ⟨0, by omega, rfl, Ext.refl _⟩
  case round =>
    obtain ⟨k, hk, rfl, hEk⟩ := hrel
    by_cases hlt : k < 6
    · have hlti : (k : Int) < 6 := by omega
      obtain ⟨x, hx, hxr, hix⟩ : ∃ x : Dg, rightB x.x x.l x.r = false ∧ x.r.size ≤ 100 ∧ ∀ w, (Instr.index 54 (.agg #[.int .i64 0, .int .i64 0, .int .i64 0, .int .i64 0, .int .i64 (-1), .string ⟨#[]⟩, .int .i64 0, .int .i64 0, .int .i64 0, .int .i64 0, .int .i64 65537, .string ⟨#[97]⟩, .int .i64 0, .int .i64 (-1), .int .i64 0, .int .i64 0, .int .i64 0, .string ⟨#[]⟩, .int .i64 0, .int .i64 0, .int .i64 0, .int .i64 4294967296, .int .i64 0, .string ⟨#[]⟩, .int .i64 0, .int .i64 0, .int .i64 0, .int .i64 0, .int .i64 0, .string ⟨#[97]⟩, .int .i64 0, .int .i64 0, .int .i64 0, .int .i64 0, .int .i64 64, .string B]) (.int .i64 k)).run Tryd.prog w = .ok (.agg (dgL x.x x.l x.r)) w := by
        match k, hlt with
        | 0, _ => exact ⟨⟨⟨0, 0, 0, 0⟩, -1, ⟨#[]⟩⟩, by decide, by decide, fun w => by kernel_rfl⟩
        | 1, _ => exact ⟨⟨⟨0, 0, 0, 0⟩, 65537, ⟨#[97]⟩⟩, by decide, by decide, fun w => by kernel_rfl⟩
        | 2, _ => exact ⟨⟨⟨0, -1, 0, 0⟩, 0, ⟨#[]⟩⟩, by decide, by decide, fun w => by kernel_rfl⟩
        | 3, _ => exact ⟨⟨⟨0, 0, 0, 4294967296⟩, 0, ⟨#[]⟩⟩, by decide, by decide, fun w => by kernel_rfl⟩
        | 4, _ => exact ⟨⟨⟨0, 0, 0, 0⟩, 0, ⟨#[97]⟩⟩, by decide, by decide, fun w => by kernel_rfl⟩
        | 5, _ => exact ⟨⟨⟨0, 0, 0, 0⟩, 64, B⟩, rightB_no (fun h => by have h1 := h.2.2.2; have h2 := HBs.out; simp only at h1; omega), by have h2 := HBs.out; show B.size ≤ 100; omega, fun w => by kernel_rfl⟩
      have hM := fun w => moreP_c x (A ++ A) (by omega) (by rw [ByteArray.size_append]; have := HAs.out; omega) w
      rw [show moreS x (A ++ A) = (.zero, 80) by unfold moreS; rw [if_pos hx]] at hM
      have hD := fun w => doneP_c x w
      rw [show doneS x = (row0, 80) by unfold doneS; rw [if_pos hx]] at hD
      have hK := fun w => checkP_c x.x x.l x.r w
      rw [show checkS x.x x.l x.r = 80 by unfold checkS; rw [hx]; rfl] at hK
      simp only [Dg.v, dgV] at hM hD hK
      change ∀ w, Calls _ _ _ w (Ret w (.tuple #[.agg dgZ, .int .i64 80])) at hM
      have hXs : (dgL x.x x.l x.r).size = 6 := rfl
      have hXo := dgL_one x.x x.l x.r
      generalize dgL x.x x.l x.r = XR at *
      have HM := Hd.mk hM
      have HD := Hd.mk hD
      have HK := Hd.mk hK
      have Hxs := Hd.mk hXs
      have Hxo := Hd.mk hXo
      clear hM hD hK hXs hXo hx hxr
      have r17_0 := Hd.mk (heap_alloc_new wr (.cells #[.int .i64 0, .int .i64 0, .int .i64 0, .int .i64 0, .int .i64 0, .string ⟨#[]⟩] 41))
      have r17 := Hd.mk (setRow_heap _ _ _ XR _ _ r17_0.out)
      have hE17 : Ext wg ((wr.alloc (.cells #[.int .i64 0, .int .i64 0, .int .i64 0, .int .i64 0, .int .i64 0, .string ⟨#[]⟩] 41)).setRow wr.heap.size XR) := Ext.setRow (Ext.alloc hEk (.cells #[.int .i64 0, .int .i64 0, .int .i64 0, .int .i64 0, .int .i64 0, .string ⟨#[]⟩] 41)) (Ext.size hEk) XR
      go_upto_region 19 with (first | (refine wpList_store_row rfl _ _ _ rfl wr.heap.size XR rfl rfl _ _ r17_0.out (by rw [Hxs.out]; kernel_rfl) (by rw [Hxs.out]; rfl) Hxo.out ?_) | (refine wpList_load_row rfl _ _ rfl wr.heap.size rfl _ XR (0, 0) _ r17.out Tryd.underlying41 rfl (by rw [Hxs.out]; kernel_rfl) ?_) | (go_at_call 23; refine (HM.out _).mono ?_; rintro e wm ⟨rfl, hbm⟩; have q17 := Hd.mk (Ext.blk hbm r17.out); have r18_0 := Hd.mk (heap_alloc_new wm (.cells #[.int .i64 0, .int .i64 0, .int .i64 0, .int .i64 0, .int .i64 0, .string ⟨#[]⟩] 41)); have r18 := Hd.mk (setRow_heap _ _ _ dgZ _ _ r18_0.out); have s17 := Hd.mk (Ext.blk (Ext.setRow (Ext.alloc (Ext.refl wm) (.cells #[.int .i64 0, .int .i64 0, .int .i64 0, .int .i64 0, .int .i64 0, .string ⟨#[]⟩] 41)) (Nat.le_refl _) dgZ) q17.out)) | (refine wpList_store_row rfl _ _ _ rfl wm.heap.size dgZ rfl rfl _ _ r18_0.out (by rw [show dgZ.size = 6 from rfl]; kernel_rfl) (by rw [show dgZ.size = 6 from rfl]; rfl) dgZ_one ?_) | (refine wpList_load_row rfl _ _ rfl wr.heap.size rfl _ XR (0, 0) _ s17.out Tryd.underlying41 rfl (by rw [Hxs.out]; kernel_rfl) ?_) | (go_at_call 24; refine (HD.out _).mono ?_; rintro e wn ⟨rfl, hbn⟩; have u17 := Hd.mk (Ext.blk hbn s17.out); have u18 := Hd.mk (Ext.blk hbn r18.out); have r20_0 := Hd.mk (heap_alloc_new wn (.cells (Array.replicate 16 (Value.int .u8 0)) 28)); have r20 := Hd.mk (setRow_heap _ _ _ row0 _ _ r20_0.out); have v17 := Hd.mk (Ext.blk (Ext.setRow (Ext.alloc (Ext.refl wn) (.cells (Array.replicate 16 (Value.int .u8 0)) 28)) (Nat.le_refl _) row0) u17.out); have v18 := Hd.mk (Ext.blk (Ext.setRow (Ext.alloc (Ext.refl wn) (.cells (Array.replicate 16 (Value.int .u8 0)) 28)) (Nat.le_refl _) row0) u18.out)) | (refine wpList_store_row rfl _ _ _ rfl wn.heap.size row0 rfl rfl _ _ r20_0.out (by rw [row0_size]; kernel_rfl) (by rw [row0_size]; rfl) row0_one ?_) | (refine wpList_load_row rfl _ _ rfl wr.heap.size rfl _ XR (0, 0) _ v17.out Tryd.underlying41 rfl (by rw [Hxs.out]; kernel_rfl) ?_))
      refine kn19 _ _ ?hckn19 wr.heap.size wm.heap.size wn.heap.size XR Hxs.out HK.out v17.out v18.out r20.out _ _ _ _ _ _ _ _ _ _ _ _ _ _ _ _ _ _ _ _ _ _ _ _ _ _ _ _ _ _ _ _ _ _ _ _ _ _ _ _ _ _ _ _ _ _ _ _ _ _ _ _ _ _ _ _ _ _ _ _ _ _ _ _ _ _ _ _ _ _ _ _ _ _ _ _ _ _ _ _ _ _ _ _ _ _ _ _ _ _ _ _ _ _ _ _ _ _ _ _ _ _ _ _ _ _ _ _ _ _ _ _ _ _ _ _ _ _ _ _ _ _ _ _ _ _ _ _ _ _ _ _ _ _ _ _ _ _ _ _ _ _ _ _ _ _ _ _ _ _ _ _ _ _ _ _ _ _ _ _ _ _ _ _ _ _ _ _ _ _ _ _ _ _ _ _ _ _ _ _ _ _ _ _ _ _ _ _ _ _ _ _ _ _ _ _ _ _ _ _ _ _ _ _ _ _ _ _ _ ?_
      case hckn19 => kernel_rfl
      intro u151 u152 u153 u154 u155 u156 u157 u158 u159 u160 u161 u162 u163 u164 u165 u166 u167 u168 u169 u170 wk hbk
      go_wp2
      have hm := Ext.trans hE17 hbm
      have hm' : Ext wg ((wm.alloc (.cells #[.int .i64 0, .int .i64 0, .int .i64 0, .int .i64 0, .int .i64 0, .string ⟨#[]⟩] 41)).setRow wm.heap.size dgZ) := Ext.setRow (Ext.alloc hm (.cells #[.int .i64 0, .int .i64 0, .int .i64 0, .int .i64 0, .int .i64 0, .string ⟨#[]⟩] 41)) (Ext.size hm) dgZ
      have hn := Ext.trans hm' hbn
      have hn' : Ext wg ((wn.alloc (.cells (Array.replicate 16 (Value.int .u8 0)) 28)).setRow wn.heap.size row0) := Ext.setRow (Ext.alloc hn (.cells (Array.replicate 16 (Value.int .u8 0)) 28)) (Ext.size hn) row0
      refine ⟨⟨k + 1, by omega, by go_num, Ext.trans hn' hbk⟩, ?_⟩
      simp [intOf]
      omega
    · obtain rfl : k = 6 := by omega
      have hEr : Ext w wr := Ext.trans hEg hEk
      go_upto_region 23 with (first | (go_at_call 16; refine (HUf.out _).mono ?_; rintro e wu ⟨rfl, hbu⟩; have r22_0 := Hd.mk (heap_alloc_new wu (.cells (Array.replicate 16 (Value.int .u8 0)) 28)); have r22 := Hd.mk (setRow_heap _ _ _ #[.int .u8 255, .int .u8 255, .int .u8 255, .int .u8 255, .int .u8 255, .int .u8 255, .int .u8 255, .int .u8 255, .int .u8 255, .int .u8 255, .int .u8 255, .int .u8 255, .int .u8 255, .int .u8 255, .int .u8 255, .int .u8 0] _ _ r22_0.out)) | (refine wpList_store_row rfl _ _ _ rfl wu.heap.size #[.int .u8 255, .int .u8 255, .int .u8 255, .int .u8 255, .int .u8 255, .int .u8 255, .int .u8 255, .int .u8 255, .int .u8 255, .int .u8 255, .int .u8 255, .int .u8 255, .int .u8 255, .int .u8 255, .int .u8 255, .int .u8 0] rfl rfl _ _ r22_0.out (by rw [show #[.int .u8 255, .int .u8 255, .int .u8 255, .int .u8 255, .int .u8 255, .int .u8 255, .int .u8 255, .int .u8 255, .int .u8 255, .int .u8 255, .int .u8 255, .int .u8 255, .int .u8 255, .int .u8 255, .int .u8 255, .int .u8 0].size = 16 from rfl]; kernel_rfl) (by rw [show #[.int .u8 255, .int .u8 255, .int .u8 255, .int .u8 255, .int .u8 255, .int .u8 255, .int .u8 255, .int .u8 255, .int .u8 255, .int .u8 255, .int .u8 255, .int .u8 255, .int .u8 255, .int .u8 255, .int .u8 255, .int .u8 0].size = 16 from rfl]; rfl) rfl ?_))
      refine kn23 _ _ ?hckn23 wu.heap.size (heap_alloc_new wu (.cells #[.int .u8 255, .int .u8 255, .int .u8 255, .int .u8 255, .int .u8 255, .int .u8 255, .int .u8 255, .int .u8 255, .int .u8 255, .int .u8 255, .int .u8 255, .int .u8 255, .int .u8 255, .int .u8 255, .int .u8 255, .int .u8 0] 28)) _ _ _ _ _ _ _ _ _ _ _ _ _ _ _ _ _ _ _ _ _ _ _ _ _ _ _ _ _ _ _ _ _ _ _ _ _ _ _ _ _ _ _ _ _ _ _ _ _ _ _ _ _ _ _ _ _ _ _ _ _ _ _ _ _ _ _ _ _ _ _ _ _ _ _ _ _ _ _ _ _ _ _ _ _ _ _ _ _ _ _ _ _ _ _ _ _ _ _ _ _ _ _ _ _ _ _ _ _ _ _ _ _ _ _ _ _ _ _ _ _ _ _ _ _ _ _ _ _ _ _ _ _ _ _ _ _ _ _ _ _ _ _ _ _ _ _ _ _ _ _ _ _ _ _ _ _ _ _ _ _ _ _ _ _ _ _ _ _ _ _ _ _ _ _ _ _ _ _ _ _ _ _ _ _ _ _ _ _ _ _ _ _ _ _ _ _ _ _ _ _ _ _ _ _ _ _ _ _ _ _ ?_
      case hckn23 => kernel_rfl
      intro u177 u178 u179 u180 u181 u182 u183 u184 u185 u186 u187 u188 u189 u190 u191 u192 u193 u194 u195 u196 u197 u198 u199 u200 u201 u202 u203 u204 u205 u206 u207 u208 u209 u210 u211 u212 W23 hE23
      go_wp2
      go_ret
      have hu := Ext.trans hEr hbu
      exact ⟨rfl, Ext.trans (Ext.alloc hu _) hE23⟩
end Go.Proofs.YtimecmleaeimkaaDoor
