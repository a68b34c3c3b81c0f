/- DigestTexts' walk. -/
import Derived.Test.YtimecmleaeimkaaDoorDigOp
import Derived.BigRegion
namespace Go.Proofs.YtimecmleaeimkaaDoor
open Go.RowKit
set_option linter.unusedVariables false
set_option maxHeartbeats 4000000 in
set_option maxRecDepth 100000 in
theorem DigestTexts_c (f : Nat → Int) (hf : ∀ j, j < 16 → 0 ≤ f j ∧ f j < 256) (t : ByteArray) (ht : t.size ≤ 9223372036854775807) (n : Nat) (hn : n < 256) (c : Int) (hc : 0 ≤ c ∧ c < 256) (w : World) :
    Calls Tryd.prog 4 #[.agg (rowF f), .string t, .int .u8 n, .int .u8 c] w (Ret w (.bool true)) := by
  have hH := fun w => hexF_c f hf w
  have hR : ∀ w, Calls Tryd.prog 15 #[.agg (rowF f)] w (Ret w (.string (hexS (fb f)))) := fun w => by
    rw [← ob_fb f hf]; exact hexR_c _ (fb_size f) w
  have hhs := hexS_size (fb f)
  generalize hexS (fb f) = X at *
  have hsz := rowF_size f
  have hon := rowF_one f
  generalize rowF f = T at *
  obtain ⟨u, eu⟩ : ∃ u, t.extract 0 (min t.size 40) = u := ⟨_, rfl⟩
  have hus : u.size = min t.size 40 := by rw [← eu, ByteArray.size_extract]; omega
  rw [← hus] at eu
  have m1 : min (t.size : Int) 40 = (u.size : Int) := by omega
  have r1 : 0 ≤ (u.size : Int) ∧ (u.size : Int) ≤ t.size := by omega
  obtain ⟨k, ek⟩ : ∃ k, n % 32 = k := ⟨_, rfl⟩
  have hk : k < 32 := by omega
  have hki : (k : Int) < 32 := by omega
  have q0 : (n : Int) % 32 = (k : Int) := by omega
  have HH := Hd.mk hH
  have HR := Hd.mk hR
  have Hsz := Hd.mk hsz
  have Hon := Hd.mk hon
  clear hH hR hsz hon ek
  go_enter Tryd.func4, Tryd.ntmps4
  have hT := Hd.mk (heap_alloc_new w (.cells T 28))
  go_upto_region 5 with (first | (go_at_call 11; refine (works_c _).mono ?_; rintro e w1 ⟨rfl, hb1⟩; have hT1 := Hd.mk (Ext.blk hb1 hT.out)) | (refine wpList_load_row rfl _ _ rfl w.heap.size rfl _ T (0, 0) _ hT1.out Tryd.underlying28 rfl (by rw [Hsz.out]; kernel_rfl) ?_) | (go_at_call 15; refine (HR.out _).mono ?_; rintro e w2 ⟨rfl, hb2⟩))
  have hE2 : Ext w w2 := Ext.trans (Ext.trans (Ext.alloc (Ext.refl _) _) hb1) hb2
  have hT2 := Hd.mk (Ext.blk hb2 hT1.out)
  obtain ⟨P1, p1⟩ : ∃ x, X.extract 0 k = x := ⟨_, rfl⟩
  obtain ⟨P2, p2⟩ : ∃ x, X.extract (k + 1) 32 = x := ⟨_, rfl⟩
  obtain ⟨P3, p3⟩ : ∃ x, X.extract k 32 = x := ⟨_, rfl⟩
  have s1 : P1.size ≤ 32 := by rw [← p1, ByteArray.size_extract]; omega
  have s2 : P2.size ≤ 32 := by rw [← p2, ByteArray.size_extract]; omega
  have s3 : P3.size ≤ 32 := by rw [← p3, ByteArray.size_extract]; omega
  have kc := conv_one c
  obtain ⟨O, eO⟩ : ∃ x, strOfNums [c] = x := ⟨_, rfl⟩
  rw [eO] at kc
  have sO : O.size = 1 := by rw [← eO, strOfNums_size]; rfl
  have g1 : ¬ 9223372036854775807 < P1.size + O.size := by omega
  have g2 : ¬ 9223372036854775807 < P1.size + O.size + P2.size := by omega
  have k1 : 0 ≤ (k : Int) ∧ (k : Int) ≤ 32 := by omega
  have k2 : 0 ≤ (k : Int) + 1 ∧ (k : Int) + 1 ≤ 32 := by omega
  have hxi : (X.size : Int) = 32 := by omega
  have hus40 : u.size ≤ 40 := by omega
  clear hb1 hb2 hT hT1 hus
  have kd : (convert 34 9 (.slice (some ⟨w2.heap.size, 0, none⟩) 1 1)).run Tryd.prog (w2.alloc (.cells #[.int .u8 c] 5)).drew = .ok (.string O) (w2.alloc (.cells #[.int .u8 c] 5)).drew := kc w2.drew
  go_region
  simp only [q0]
  have hE5 : Ext w (w2.alloc (.cells #[.int .u8 c] 5)).drew := (by repeat (first | exact Ext.refl _ | assumption | apply Ext.alloc | apply Ext.drew | apply Ext.drewN | apply Ext.bytes | apply Ext.iter | refine Ext.setCell ?_ (by simp; omega) _ | refine Ext.trans ?_ (by assumption)))
  have hT5 := Hd.mk (show (w2.alloc (.cells #[.int .u8 c] 5)).drew.heap[w.heap.size]? = some (.cells T 28 (0, 0)) from Ext.blk (Ext.drew (Ext.alloc (Ext.refl _) _)) hT2.out)
  have hlt2 : w.heap.size < (w2.alloc (.cells #[.int .u8 c] 5)).drew.heap.size := by
    rcases Nat.lt_or_ge w.heap.size (w2.alloc (.cells #[.int .u8 c] 5)).drew.heap.size with h | h
    · exact h
    · have := hT5.out; rw [Array.getElem?_eq_none h] at this; cases this
  generalize (w2.alloc (.cells #[.int .u8 c] 5)).drew = W5 at *
  clear kd kc hT2 hE2
  have hx1 : (P1 ++ O ++ P2).size ≤ 65 := by rw [ByteArray.size_append, ByteArray.size_append]; omega
  generalize P1 ++ O ++ P2 = X1 at *
  go_wp2
  go_loopw [46] (fun vi wr => ∃ j : Nat, j ≤ 4 ∧ vi = .int .i64 j ∧ Ext W5 wr) (fun i _ => 4 - (intOf i).toNat)
  case atStart => exact ⟨0, by omega, rfl, Ext.refl _⟩
  case round =>
    obtain ⟨j, hj, rfl, hEk⟩ := hrel
    by_cases hlt : j < 4
    · have hlti : (j : Int) < 4 := by omega
      obtain ⟨x, hx, hix⟩ : ∃ x : ByteArray, x.size ≤ 65 ∧ ∀ w, (Instr.index 35 (.agg #[.string u, .string X, .string X1, .string P3]) (.int .i64 j)).run Tryd.prog w = .ok (.string x) w := by
        match j, hlt with
        | 0, _ => exact ⟨u, by omega, fun w => by kernel_rfl⟩
        | 1, _ => exact ⟨X, by omega, fun w => by kernel_rfl⟩
        | 2, _ => exact ⟨X1, by omega, fun w => by kernel_rfl⟩
        | 3, _ => exact ⟨P3, by omega, fun w => by kernel_rfl⟩
      have hP := fun w => unhexP_c x (by omega) w
      have hR := fun w => unhexR_c x w
      obtain ⟨g, eg, _⟩ := unhS_row x
      rw [eg] at hP hR
      have hq := neq_rowF g
      have hgs := rowF_size g
      have hgo := rowF_one g
      generalize rowF g = G at *
      generalize (unhS x).2 = er at *
      have hee : (er != er) = false := by simp
      have HP := Hd.mk hP
      have HRR := Hd.mk hR
      have Hgs := Hd.mk hgs
      have Hgo := Hd.mk hgo
      clear hP hR hgs hgo
      go_wp2_with (first | (go_at_call 16; refine (HP.out _).mono ?_; rintro e wa ⟨rfl, hba⟩; have hrow := Hd.mk (heap_alloc_new wa (.cells (Array.replicate 16 (Value.int .u8 0)) 28)); have hr1 := Hd.mk (setRow_heap _ _ _ G _ _ hrow.out)) | (refine wpList_store_row rfl _ _ _ rfl wa.heap.size G rfl rfl _ _ hrow.out (by rw [Hgs.out]; kernel_rfl) (by rw [Hgs.out]; rfl) Hgo.out ?_) | (go_at_call 17; refine (HRR.out _).mono ?_; rintro e wb ⟨rfl, hbb⟩; have hrowb := Hd.mk (heap_alloc_new wb (.cells (Array.replicate 16 (Value.int .u8 0)) 28)); have hr2 := Hd.mk (setRow_heap _ _ _ G _ _ hrowb.out)) | (refine wpList_store_row rfl _ _ _ rfl wb.heap.size G rfl rfl _ _ hrowb.out (by rw [Hgs.out]; kernel_rfl) (by rw [Hgs.out]; rfl) Hgo.out ?_) | (refine wpList_load_row rfl _ _ rfl wb.heap.size rfl _ G (0, 0) _ hr2.out Tryd.underlying28 rfl (by rw [Hgs.out]; kernel_rfl) ?_) | (refine wpList_load_row rfl _ _ rfl wa.heap.size rfl _ G (0, 0) _ (Ext.blk (Ext.setRow (Ext.alloc hbb _) (Ext.size hbb) _) hr1.out) Tryd.underlying28 rfl (by rw [Hgs.out]; kernel_rfl) ?_))
      have hEa : Ext W5 ((wa.alloc (.cells (Array.replicate 16 (Value.int .u8 0)) 28)).setRow wa.heap.size G) := Ext.setRow (Ext.alloc (Ext.trans hEk hba) _) (Ext.size (Ext.trans hEk hba)) _
      have hEb := Ext.trans hEa hbb
      go_roundw
      case rel => exact ⟨j + 1, by omega, by go_num, Ext.setRow (Ext.alloc hEb _) (Ext.size hEb) _⟩
      case measure => simp [intOf]; omega
    · obtain rfl : j = 4 := by omega
      have hTr := Hd.mk (Ext.blk hEk hT5.out)
      go_wp2_with (first | (refine wpList_load_row rfl _ _ rfl w.heap.size rfl _ T (0, 0) _ hTr.out Tryd.underlying28 rfl (by rw [Hsz.out]; kernel_rfl) ?_) | (go_at_call 18; refine (HH.out _).mono ?_; rintro e w9 ⟨rfl, hb9⟩))
      go_ret
      exact ⟨rfl, Ext.trans (Ext.trans hE5 hEk) hb9⟩
end Go.Proofs.YtimecmleaeimkaaDoor
