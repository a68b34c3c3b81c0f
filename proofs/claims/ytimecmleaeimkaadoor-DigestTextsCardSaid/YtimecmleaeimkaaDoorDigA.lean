/- DigestSums' walk. -/
import Derived.Test.YtimecmleaeimkaaDoorDigZ
namespace Go.Proofs.YtimecmleaeimkaaDoor
open Go.RowKit
set_option linter.unusedVariables false

theorem rowF_map (f : Nat → Int) : rowF f = (((List.range 16).map f).map (Value.int .u8)).toArray := by unfold rowF; rw [List.map_map]; rfl
theorem neq_rowF (f : Nat → Int) (w : World) : (binOp .neq 28 (.agg (rowF f)) (.agg (rowF f))).run Tryd.prog w = .ok (.bool false) w := by
  rw [rowF_map, run_neq_ints w .u8 28 5 16 Tryd.underlying28 Tryd.underlying5 (fun w => by kernel_rfl) _ _ (by simp) (by simp)]
  simp
set_option maxHeartbeats 2000000 in
set_option maxRecDepth 100000 in
theorem DigestSums_c (S L : ByteArray) (hS : S.size ≤ 9223372036854775807) (hL : L.size ≤ 9223372036854775807) (n : Nat) (hn : n < 65536) (all : Bool) (w : World) :
    Calls Tryd.prog 3 #[.agg #[.string S, .string L, .int .u16 n], .bool all] w (Ret w (.bool true)) := by
  have hO := fun w => octets_c S L hS hL n hn all w
  have hxs := longS_size S L n all
  have hbs := cut300_size L
  have hcu : L.extract 0 (min L.size 300) = cut300 L := rfl
  rw [← hbs] at hcu
  generalize longS S L n all = X at *
  generalize cut300 L = B at *
  have m2 : min (L.size : Int) 300 = (B.size : Int) := by omega
  have r2 : 0 ≤ (B.size : Int) ∧ (B.size : Int) ≤ L.size := by omega
  have hb3 : B.size ≤ 300 := by omega
  have HO := Hd.mk hO
  clear hO hbs
  go_enter Tryd.func3, Tryd.ntmps3
  go_upto_region 3 with (go_at_call 11; refine (works_c _).mono ?_; rintro e w1 ⟨rfl, hb⟩; have H0 := Hd.mk (Ext.blk hb (heap_alloc_new w (.cells #[.string S, .string L, .int .u16 n] 24))))
  have hE : Ext w w1 := (by repeat (first | exact Ext.refl _ | assumption | apply Ext.alloc | apply Ext.drew | apply Ext.drewN | apply Ext.bytes | apply Ext.iter | refine Ext.setCell ?_ (by simp; omega) _ | refine Ext.trans ?_ (by assumption)))
  clear hb
  have hcc : ∀ w', Ext w1 w' → w'.cell? ⟨w.heap.size, 0, none⟩ = some (.string S) ∧ w'.cell? ⟨w.heap.size, 1, none⟩ = some (.string L) ∧ w'.cell? ⟨w.heap.size, 2, none⟩ = some (.int .u16 n) := fun w' h => ⟨Ext.cell h (row_cell H0.out rfl), Ext.cell h (row_cell H0.out rfl), Ext.cell h (row_cell H0.out rfl)⟩
  refine wp_region_x (Ext w1) false (by kernel_rfl) (by kernel_rfl) (by repeat (first | exact Ext.refl _ | assumption | apply Ext.alloc | apply Ext.drew | apply Ext.drewN | apply Ext.bytes | apply Ext.iter | refine Ext.setCell ?_ (by simp; omega) _ | refine Ext.trans ?_ (by assumption))) ?_
  (repeat (first
   | (refine wpX_skip rfl ?_; (try simp only [Act.put, List.setIfInBounds_toArray, List.set_cons_zero, List.set_cons_succ]))
   | (apply wpX_still; exact rfl; exact rfl; (intro w' hw'; have hcw := hcc w' hw'; go_simp; first | done | exact rfl); (try simp only [Act.put, List.setIfInBounds_toArray, List.set_cons_zero, List.set_cons_succ]))))
  refine wpX_busy rfl rfl ?_
  go_simp
  go_at_call 12
  refine (HO.out _).mono ?_
  rintro e wc ⟨rfl, hbc⟩
  refine ⟨_, rfl, (by repeat (first | exact Ext.refl _ | assumption | apply Ext.alloc | apply Ext.drew | apply Ext.drewN | apply Ext.bytes | apply Ext.iter | refine Ext.setCell ?_ (by simp; omega) _ | refine Ext.trans ?_ (by assumption))), ?_⟩
  (try simp only [Act.put, List.setIfInBounds_toArray, List.set_cons_zero, List.set_cons_succ])
  (repeat (first
   | (refine wpX_skip rfl ?_; (try simp only [Act.put, List.setIfInBounds_toArray, List.set_cons_zero, List.set_cons_succ]))
   | (apply wpX_still; exact rfl; exact rfl; (intro w' hw'; have hcw := hcc w' hw'; go_simp; first | done | exact rfl); (try simp only [Act.put, List.setIfInBounds_toArray, List.set_cons_zero, List.set_cons_succ]))))
  refine wpX_nil fun wf hwf => ?_
  have hEf : Ext w wf := by rw [hwf.out]; exact (by repeat (first | exact Ext.refl _ | assumption | apply Ext.alloc | apply Ext.drew | apply Ext.drewN | apply Ext.bytes | apply Ext.iter | refine Ext.setCell ?_ (by simp; omega) _ | refine Ext.trans ?_ (by assumption)))
  clear hwf hbc hcc H0
  go_wp2
  go_loopw [24] (fun vi wr => ∃ k : Nat, k ≤ 2 ∧ vi = .int .i64 k ∧ Ext w wr) (fun i _ => 2 - (intOf i).toNat)
  case atStart => exact ⟨0, by omega, rfl, hEf⟩
  case round =>
    obtain ⟨k, hk, rfl, hEk⟩ := hrel
    by_cases hlt : k < 2
    · have hlti : (k : Int) < 2 := by omega
      obtain ⟨x, hx, hix⟩ : ∃ x : ByteArray, x.size ≤ 65700 ∧ ∀ w, (Instr.index 27 (.agg #[.string X, .string B]) (.int .i64 k)).run Tryd.prog w = .ok (.string x) w := by
        match k, hlt with
        | 0, _ => exact ⟨X, by omega, fun w => by kernel_rfl⟩
        | 1, _ => exact ⟨B, by omega, fun w => by kernel_rfl⟩
      have hP := fun w => sumP_c x (by omega) w
      have hR := fun w => sumR_c x w
      rw [sumS_row] at hP hR
      have hq := neq_rowF (sumF x)
      have hsz := rowF_size (sumF x)
      have hon := rowF_one (sumF x)
      generalize rowF (sumF x) = T at *
      generalize (sumS x).2 = er at *
      have hee : (er != er) = false := by simp
      have HP := Hd.mk hP
      have HRR := Hd.mk hR
      have Hsz := Hd.mk hsz
      have Hon := Hd.mk hon
      clear hP hR hsz hon
      go_wp2_with (first | (go_at_call 13; refine (HP.out _).mono ?_; rintro e wa ⟨rfl, hba⟩; have hrow := Hd.mk (heap_alloc_new wa (.cells (Array.replicate 16 (Value.int .u8 0)) 28)); have hr1 := Hd.mk (setRow_heap _ _ _ T _ _ hrow.out)) | (refine wpList_store_row rfl _ _ _ rfl wa.heap.size T rfl rfl _ _ hrow.out (by rw [Hsz.out]; kernel_rfl) (by rw [Hsz.out]; rfl) Hon.out ?_) | (go_at_call 14; refine (HRR.out _).mono ?_; rintro e wb ⟨rfl, hbb⟩; have hrowb := Hd.mk (heap_alloc_new wb (.cells (Array.replicate 16 (Value.int .u8 0)) 28)); have hr2 := Hd.mk (setRow_heap _ _ _ T _ _ hrowb.out)) | (refine wpList_store_row rfl _ _ _ rfl wb.heap.size T rfl rfl _ _ hrowb.out (by rw [Hsz.out]; kernel_rfl) (by rw [Hsz.out]; rfl) Hon.out ?_) | (refine wpList_load_row rfl _ _ rfl wb.heap.size rfl _ T (0, 0) _ hr2.out Tryd.underlying28 rfl (by rw [Hsz.out]; kernel_rfl) ?_) | (refine wpList_load_row rfl _ _ rfl wa.heap.size rfl _ T (0, 0) _ (Ext.blk (Ext.setRow (Ext.alloc hbb _) (Ext.size hbb) _) hr1.out) Tryd.underlying28 rfl (by rw [Hsz.out]; kernel_rfl) ?_))
      have hEa : Ext w ((wa.alloc (.cells (Array.replicate 16 (Value.int .u8 0)) 28)).setRow wa.heap.size T) := Ext.setRow (Ext.alloc (Ext.trans hEk hba) _) (Ext.size (Ext.trans hEk hba)) _
      have hEb := Ext.trans hEa hbb
      refine ⟨⟨k + 1, by omega, by go_num, Ext.setRow (Ext.alloc hEb _) (Ext.size hEb) _⟩, ?_⟩
      simp [intOf]
      omega
    · obtain rfl : k = 2 := by omega
      go_wp2
      go_ret
      exact ⟨rfl, hEk⟩
end Go.Proofs.YtimecmleaeimkaaDoor
