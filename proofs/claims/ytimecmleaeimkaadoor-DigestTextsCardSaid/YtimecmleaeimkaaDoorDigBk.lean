/- DigestBack's walk. -/
import Derived.Test.YtimecmleaeimkaaDoorDigG
namespace Go.Proofs.YtimecmleaeimkaaDoor
open Go.RowKit
set_option linter.unusedVariables false
theorem unhS_row (t : ByteArray) : ∃ g, (unhS t).1 = rowF g ∧ ((unhS t).2 = 0 ∧ (∀ j, j < 16 → 0 ≤ g j ∧ g j < 256) ∧ hexS (fb g) = t ∨ (unhS t).2 = 5 ∧ rowF g = row0) := by
  by_cases h : t.size = 32 ∧ digs t 32 = true
  · have e : unhS t = (rowF (ub t), 0) := by unfold unhS; rw [if_pos h]
    exact ⟨ub t, by rw [e], .inl ⟨by rw [e], ub_bd t h.2, hex_unh t h.1 h.2⟩⟩
  · have e : unhS t = (row0, 5) := by unfold unhS; rw [if_neg h]
    exact ⟨zF, by rw [e]; exact rowF_zero.symm, .inr ⟨by rw [e], rowF_zero⟩⟩
set_option maxHeartbeats 4000000 in
set_option maxRecDepth 100000 in
theorem DigestBack_c (f : Nat → Int) (hf : ∀ j, j < 16 → 0 ≤ f j ∧ f j < 256) (t : ByteArray) (ht : t.size ≤ 9223372036854775807) (w : World) :
    Calls Tryd.prog 6 #[.agg (rowF f), .string t] w (Ret w (.bool true)) := by
  have hH := fun w => hexF_c f hf w
  have hU := fun w => unhexP_c (hexS (fb f)) (by rw [hexS_size]; decide) w
  rw [unh_hex, rowF_ext (fun j hj => fb_at f hf j hj)] at hU
  have hhs := hexS_size (fb f)
  generalize hexS (fb f) = X at *
  have hq := neq_rowF f
  have hsz := rowF_size f
  have hon := rowF_one f
  generalize rowF f = T at *
  have hhi : ((X.size : Int) != 32) = false := bne_eq_false_iff_eq.2 (by omega)
  obtain ⟨u, eu⟩ : ∃ u, t.extract 0 (min t.size 40) = u := ⟨_, rfl⟩
  have hus : u.size = min t.size 40 := by rw [← eu, ByteArray.size_extract]; omega
  rw [← hus] at eu
  have m1 : min (t.size : Int) 40 = (u.size : Int) := by omega
  have r1 : 0 ≤ (u.size : Int) ∧ (u.size : Int) ≤ t.size := by omega
  have hV := fun w => unhexP_c u (by omega) w
  obtain ⟨g, eg, hcase⟩ := unhS_row u
  rw [eg] at hV
  have hgs := rowF_size g
  have hgo := rowF_one g
  have HH := Hd.mk hH
  have HU := Hd.mk hU
  have Hsz := Hd.mk hsz
  have Hon := Hd.mk hon
  have Hhs := Hd.mk hhs
  clear hH hU hsz hon hus hhs eg
  rcases hcase with ⟨e0, hgb, hx⟩ | ⟨e5, hz⟩
  · have hG := fun w => hexF_c g hgb w
    rw [hx] at hG
    rw [e0] at hV
    generalize rowF g = G at *
    have HG := Hd.mk hG
    have HV := Hd.mk hV
    have Hgs := Hd.mk hgs
    have Hgo := Hd.mk hgo
    clear hG hV hgs hgo hx e0
    go_enter Tryd.func6, Tryd.ntmps6
    have hT := Hd.mk (heap_alloc_new w (.cells T 28))
    go_upto_region 4 with (first | (go_at_call 11; refine (works_c _).mono ?_; rintro e w1 ⟨rfl, hb1⟩; have hT1 := Hd.mk (Ext.blk hb1 hT.out)) | (refine wpList_load_row rfl _ _ rfl w.heap.size rfl _ T (0, 0) _ hT1.out Tryd.underlying28 rfl (by rw [Hsz.out]; kernel_rfl) ?_) | (go_at_call 18; refine (HH.out _).mono ?_; rintro e w2 ⟨rfl, hb2⟩) | (go_at_call 16; refine (HU.out _).mono ?_; rintro e w3 ⟨rfl, hb3⟩; have hrow := Hd.mk (heap_alloc_new w3 (.cells (Array.replicate 16 (Value.int .u8 0)) 28)); have hr1 := Hd.mk (setRow_heap _ _ _ T _ _ hrow.out)) | (refine wpList_store_row rfl _ _ _ rfl w3.heap.size T rfl rfl _ _ hrow.out (by rw [Hsz.out]; kernel_rfl) (by rw [Hsz.out]; rfl) Hon.out ?_))
    have hE3 : Ext w w3 := Ext.trans (Ext.trans (Ext.trans (Ext.alloc (Ext.refl w) (.cells T 28)) hb1) hb2) hb3
    have hEy : Ext w3 ((w3.alloc (.cells (Array.replicate 16 (Value.int .u8 0)) 28)).setRow w3.heap.size T) := Ext.setRow (Ext.alloc (Ext.refl _) _) (Nat.le_refl _) _
    have hT2 := Hd.mk (Ext.blk hEy (Ext.blk hb3 (Ext.blk hb2 hT1.out)))
    have hE1 : Ext w ((w3.alloc (.cells (Array.replicate 16 (Value.int .u8 0)) 28)).setRow w3.heap.size T) := Ext.trans hE3 hEy
    refine wp_name fun Y1 hY1 => ?_
    rw [show ((w3.alloc (.cells (Array.replicate 16 (Value.int .u8 0)) 28)).setRow w3.heap.size T) = Y1 from hY1.out.symm] at hT2 hE1 hr1
    clear hrow hb1 hb2 hb3 hEy hT hT1 hY1
    go_upto_region 6 with (first | (refine wpList_load_row_w rfl _ _ rfl w3.heap.size rfl _ T (0, 0) _ hr1.out Tryd.underlying28 rfl (by rw [Hsz.out]; kernel_rfl) ?_) | (refine wpList_load_row_w rfl _ _ rfl w.heap.size rfl _ T (0, 0) _ hT2.out Tryd.underlying28 rfl (by rw [Hsz.out]; kernel_rfl) ?_) | (go_at_call 18; refine (HH.out _).mono ?_; rintro e w4 ⟨rfl, hb4⟩))
    have hE4 : Ext w w4 := Ext.trans hE1 hb4
    clear hE1 hb4
    go_wp2_with (first | (go_at_call 16; refine (HV.out _).mono ?_; rintro e w5 ⟨rfl, hb5⟩; have hrow5 := Hd.mk (heap_alloc_new w5 (.cells (Array.replicate 16 (Value.int .u8 0)) 28)); have hr5 := Hd.mk (setRow_heap _ _ _ G _ _ hrow5.out)) | (refine wpList_store_row rfl _ _ _ rfl w5.heap.size G rfl rfl _ _ hrow5.out (by rw [Hgs.out]; kernel_rfl) (by rw [Hgs.out]; rfl) Hgo.out ?_) | (refine wpList_load_row_w rfl _ _ rfl w5.heap.size rfl _ G (0, 0) _ hr5.out Tryd.underlying28 rfl (by rw [Hgs.out]; kernel_rfl) ?_) | (go_at_call 18; refine (HG.out _).mono ?_; rintro e w6 ⟨rfl, hb6⟩))
    go_ret
    have hE5 : Ext w ((w5.alloc (.cells (Array.replicate 16 (Value.int .u8 0)) 28)).setRow w5.heap.size G) := Ext.setRow (Ext.alloc (Ext.trans hE4 hb5) _) (Ext.size (Ext.trans hE4 hb5)) _
    exact ⟨rfl, Ext.trans hE5 hb6⟩
  · have hl : ∀ w, (binOp .eql 28 (.agg (rowF g)) (.agg #[.int .u8 0, .int .u8 0, .int .u8 0, .int .u8 0, .int .u8 0, .int .u8 0, .int .u8 0, .int .u8 0, .int .u8 0, .int .u8 0, .int .u8 0, .int .u8 0, .int .u8 0, .int .u8 0, .int .u8 0, .int .u8 0])).run Tryd.prog w = .ok (.bool true) w := fun w => by
      rw [hz]
      exact run_eql_ints w .u8 28 5 16 Tryd.underlying28 Tryd.underlying5 (fun w => by kernel_rfl) (List.replicate 16 0) (List.replicate 16 0) rfl rfl
    rw [e5] at hV
    clear hz
    generalize rowF g = G at *
    have HV := Hd.mk hV
    have Hgs := Hd.mk hgs
    have Hgo := Hd.mk hgo
    clear hV hgs hgo e5
    go_enter Tryd.func6, Tryd.ntmps6
    have hT := Hd.mk (heap_alloc_new w (.cells T 28))
    go_upto_region 4 with (first | (go_at_call 11; refine (works_c _).mono ?_; rintro e w1 ⟨rfl, hb1⟩; have hT1 := Hd.mk (Ext.blk hb1 hT.out)) | (refine wpList_load_row rfl _ _ rfl w.heap.size rfl _ T (0, 0) _ hT1.out Tryd.underlying28 rfl (by rw [Hsz.out]; kernel_rfl) ?_) | (go_at_call 18; refine (HH.out _).mono ?_; rintro e w2 ⟨rfl, hb2⟩) | (go_at_call 16; refine (HU.out _).mono ?_; rintro e w3 ⟨rfl, hb3⟩; have hrow := Hd.mk (heap_alloc_new w3 (.cells (Array.replicate 16 (Value.int .u8 0)) 28)); have hr1 := Hd.mk (setRow_heap _ _ _ T _ _ hrow.out)) | (refine wpList_store_row rfl _ _ _ rfl w3.heap.size T rfl rfl _ _ hrow.out (by rw [Hsz.out]; kernel_rfl) (by rw [Hsz.out]; rfl) Hon.out ?_))
    have hE3 : Ext w w3 := Ext.trans (Ext.trans (Ext.trans (Ext.alloc (Ext.refl w) (.cells T 28)) hb1) hb2) hb3
    have hEy : Ext w3 ((w3.alloc (.cells (Array.replicate 16 (Value.int .u8 0)) 28)).setRow w3.heap.size T) := Ext.setRow (Ext.alloc (Ext.refl _) _) (Nat.le_refl _) _
    have hT2 := Hd.mk (Ext.blk hEy (Ext.blk hb3 (Ext.blk hb2 hT1.out)))
    have hE1 : Ext w ((w3.alloc (.cells (Array.replicate 16 (Value.int .u8 0)) 28)).setRow w3.heap.size T) := Ext.trans hE3 hEy
    refine wp_name fun Y1 hY1 => ?_
    rw [show ((w3.alloc (.cells (Array.replicate 16 (Value.int .u8 0)) 28)).setRow w3.heap.size T) = Y1 from hY1.out.symm] at hT2 hE1 hr1
    clear hrow hb1 hb2 hb3 hEy hT hT1 hY1
    go_upto_region 6 with (first | (refine wpList_load_row_w rfl _ _ rfl w3.heap.size rfl _ T (0, 0) _ hr1.out Tryd.underlying28 rfl (by rw [Hsz.out]; kernel_rfl) ?_) | (refine wpList_load_row_w rfl _ _ rfl w.heap.size rfl _ T (0, 0) _ hT2.out Tryd.underlying28 rfl (by rw [Hsz.out]; kernel_rfl) ?_) | (go_at_call 18; refine (HH.out _).mono ?_; rintro e w4 ⟨rfl, hb4⟩))
    have hE4 : Ext w w4 := Ext.trans hE1 hb4
    clear hE1 hb4
    go_wp2_with (first | (go_at_call 16; refine (HV.out _).mono ?_; rintro e w5 ⟨rfl, hb5⟩; have hrow5 := Hd.mk (heap_alloc_new w5 (.cells (Array.replicate 16 (Value.int .u8 0)) 28)); have hr5 := Hd.mk (setRow_heap _ _ _ G _ _ hrow5.out)) | (refine wpList_store_row rfl _ _ _ rfl w5.heap.size G rfl rfl _ _ hrow5.out (by rw [Hgs.out]; kernel_rfl) (by rw [Hgs.out]; rfl) Hgo.out ?_) | (refine wpList_load_row_w rfl _ _ rfl w5.heap.size rfl _ G (0, 0) _ hr5.out Tryd.underlying28 rfl (by rw [Hgs.out]; kernel_rfl) ?_))
    go_ret
    have hE5 : Ext w ((w5.alloc (.cells (Array.replicate 16 (Value.int .u8 0)) 28)).setRow w5.heap.size G) := Ext.setRow (Ext.alloc (Ext.trans hE4 hb5) _) (Ext.size (Ext.trans hE4 hb5)) _
    exact ⟨rfl, hE5⟩
end Go.Proofs.YtimecmleaeimkaaDoor
