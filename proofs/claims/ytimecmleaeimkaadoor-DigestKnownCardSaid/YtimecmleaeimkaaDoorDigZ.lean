/- Long's octets. -/
import Derived.Test.YtimecmleaeimkaaDoorDigY
namespace Go.Proofs.YtimecmleaeimkaaDoor
open Go.RowKit
set_option linter.unusedVariables false

/-- At most 300 octets. -/
def cut300 (s : ByteArray) : ByteArray := s.extract 0 (min s.size 300)
theorem cut300_size (s : ByteArray) : (cut300 s).size = min s.size 300 := by unfold cut300; rw [ByteArray.size_extract]; omega
def repS (s : ByteArray) (n : Nat) : ByteArray := ⟨(Lib.repeatL s.data.toList n).toArray⟩
theorem repS_size (s : ByteArray) (n : Nat) : (repS s n).size = n * s.size := by
  show (Lib.repeatL s.data.toList n).toArray.size = _
  rw [List.size_toArray]
  induction n with
  | zero => simp [Lib.repeatL]
  | succ n ih => rw [Lib.repeatL, List.length_append, ih, Array.length_toList, Nat.succ_mul]; show s.size + _ = _; omega
def cntS (k n : Nat) (all : Bool) : Nat := min n ((if all then 65400 else 3700) / max k 1)
def longS (S L : ByteArray) (n : Nat) (all : Bool) : ByteArray := repS (cut300 S) (cntS (cut300 S).size n all) ++ cut300 L
theorem cnt_le (k n : Nat) (all : Bool) : cntS k n all * k ≤ 65400 := by
  unfold cntS
  generalize hm : (if all = true then 65400 else 3700) = m
  have hm' : m ≤ 65400 := by subst hm; split <;> omega
  have h1 : m / max k 1 * max k 1 ≤ m := Nat.div_mul_le_self _ _
  have h2 : min n (m / max k 1) * k ≤ m / max k 1 * max k 1 := Nat.mul_le_mul (Nat.min_le_right _ _) (Nat.le_max_left _ _)
  omega
theorem longS_size (S L : ByteArray) (n : Nat) (all : Bool) : (longS S L n all).size ≤ 65700 := by
  unfold longS
  rw [ByteArray.size_append, repS_size, cut300_size L]
  have := cnt_le (cut300 S).size n all
  omega
set_option maxHeartbeats 2000000 in
set_option maxRecDepth 100000 in
theorem octets_c (S L : ByteArray) (hS : S.size ≤ 9223372036854775807) (hL : L.size ≤ 9223372036854775807) (n : Nat) (hn : n < 65536) (all : Bool) (w : World) :
    Calls Tryd.prog 12 #[.agg #[.string S, .string L, .int .u16 n], .bool all] w (Ret w (.string (longS S L n all))) := by
  have hcl := cnt_le (cut300 S).size n all
  have hR := fun w => Tryd.strings_Repeat (cut300 S) (cntS (cut300 S).size n all) w (by unfold cntS; omega) (by rw [Nat.mul_comm]; omega)
  change ∀ w, Calls _ _ _ w fun e w' => e = .returned (.string (repS (cut300 S) (cntS (cut300 S).size n all))) ∧ Ext w w' at hR
  have HL := Hd.mk (show longS S L n all = repS (cut300 S) (cntS (cut300 S).size n all) ++ cut300 L from rfl)
  have hrs := repS_size (cut300 S) (cntS (cut300 S).size n all)
  have hcs := cut300_size S
  have hcl2 := cut300_size L
  have hcu : cut300 S = S.extract 0 (min S.size 300) := rfl
  have hcu2 : cut300 L = L.extract 0 (min L.size 300) := rfl
  generalize cut300 S = A at *
  generalize cut300 L = B at *
  have hcd : cntS A.size n all = min n ((if all then 65400 else 3700) / max A.size 1) := rfl
  generalize cntS A.size n all = c at *
  generalize repS A c = R at *
  have m1 : min (S.size : Int) 300 = (A.size : Int) := by omega
  have m2 : min (L.size : Int) 300 = (B.size : Int) := by omega
  rw [← hcs] at hcu
  rw [← hcl2] at hcu2
  have e1 : S.extract 0 A.size = A := hcu.symm
  have e2 : L.extract 0 B.size = B := hcu2.symm
  have HR := Hd.mk hR
  have Hcd := Hd.mk hcd
  have Hrs := Hd.mk hrs
  have r1 : 0 ≤ (A.size : Int) ∧ (A.size : Int) ≤ S.size := by omega
  have r2 : 0 ≤ (B.size : Int) ∧ (B.size : Int) ≤ L.size := by omega
  clear hR hcu hcu2 hcd hrs
  have Hcs := Hd.mk hcs
  have Hcl2 := Hd.mk hcl2
  clear hcs hcl2
  obtain ⟨mx, emx⟩ : ∃ mx : Nat, max A.size 1 = mx := ⟨_, rfl⟩
  have hmx : 1 ≤ mx := by omega
  have m3 : max (A.size : Int) 1 = (mx : Int) := by omega
  have q0 : IntKind.i64.wrap (n : Int) = (n : Int) := by rw [IntKind.wrap_i64]; omega
  have g1 : ¬ 9223372036854775807 < R.size + B.size := by have h1 := Hrs.out; have h2 := Hcl2.out; omega
  cases all
  · obtain ⟨q, eq⟩ : ∃ q : Nat, 3700 / mx = q := ⟨_, rfl⟩
    have m4 : (3700 : Int).tdiv (mx : Int) = (q : Int) := by rw [Int.tdiv_eq_ediv_of_nonneg (by decide), ← eq]; rfl
    have hq : q ≤ 3700 := by rw [← eq]; exact Nat.div_le_self _ _
    have q1 : IntKind.i64.wrap (q : Int) = (q : Int) := by rw [IntKind.wrap_i64]; omega
    have m5 : min (n : Int) (q : Int) = (c : Int) := by have h := Hcd.out; rw [emx] at h; simp only [Bool.false_eq_true, if_false, eq] at h; omega
    have hz : ¬ mx = 0 := by omega
    clear emx eq
    go_enter Tryd.func12, Tryd.ntmps12
    go_upto_region 4 with fail
    refine wp_name fun Y0 hY0 => ?_
    have hE : Ext w Y0 := by rw [hY0.out]; exact (by repeat (first | exact Ext.refl _ | assumption | apply Ext.alloc | apply Ext.drew | apply Ext.drewN | apply Ext.bytes | apply Ext.iter | refine Ext.setCell ?_ (by simp; omega) _ | refine Ext.trans ?_ (by assumption)))
    have H0 := Hd.mk (show Y0.heap[w.heap.size]? = some (.cells #[.string S, .string L, .int .u16 n] 24 (0, 0)) by rw [hY0.out]; exact Ext.blk (Ext.refl _) (heap_alloc_new _ _))
    clear hY0
    have hcc : ∀ w', Ext Y0 w' → w'.cell? ⟨w.heap.size, 1, none⟩ = some (.string L) ∧ w'.cell? ⟨w.heap.size, 2, none⟩ = some (.int .u16 n) := fun w' h => ⟨Ext.cell h (row_cell H0.out rfl), Ext.cell h (row_cell H0.out rfl)⟩
    refine wp_region_x (Ext Y0) false (by kernel_rfl) (by kernel_rfl) (by repeat (first | exact Ext.refl _ | assumption | apply Ext.alloc | apply Ext.drew | apply Ext.drewN | apply Ext.bytes | apply Ext.iter | refine Ext.setCell ?_ (by simp; omega) _ | refine Ext.trans ?_ (by assumption))) ?_
    (repeat (first
     | (refine wpX_skip rfl ?_; (try simp only [Act.put, List.setIfInBounds_toArray, List.set_cons_zero, List.set_cons_succ]))
     | (apply wpX_still; exact rfl; exact rfl; (intro w' hw'; have hcw := hcc w' hw'; go_simp; first | done | exact rfl); (try simp only [Act.put, List.setIfInBounds_toArray, List.set_cons_zero, List.set_cons_succ]))))
    refine wpX_busy rfl rfl ?_
    go_simp
    go_at_call 28
    refine (HR.out _).mono ?_
    rintro e wc ⟨rfl, hbc⟩
    refine ⟨_, rfl, (by repeat (first | exact Ext.refl _ | assumption | apply Ext.alloc | apply Ext.drew | apply Ext.drewN | apply Ext.bytes | apply Ext.iter | refine Ext.setCell ?_ (by simp; omega) _ | refine Ext.trans ?_ (by assumption))), ?_⟩
    (try simp only [Act.put, List.setIfInBounds_toArray, List.set_cons_zero, List.set_cons_succ])
    (repeat (first
     | (refine wpX_skip rfl ?_; (try simp only [Act.put, List.setIfInBounds_toArray, List.set_cons_zero, List.set_cons_succ]))
     | (apply wpX_still; exact rfl; exact rfl; (intro w' hw'; have hcw := hcc w' hw'; go_simp; first | done | exact rfl); (try simp only [Act.put, List.setIfInBounds_toArray, List.set_cons_zero, List.set_cons_succ]))))
    refine wpX_nil fun wf hwf => ?_
    have hEf : Ext w wf := by rw [hwf.out]; exact (by repeat (first | exact Ext.refl _ | assumption | apply Ext.alloc | apply Ext.drew | apply Ext.drewN | apply Ext.bytes | apply Ext.iter | refine Ext.setCell ?_ (by simp; omega) _ | refine Ext.trans ?_ (by assumption)))
    go_wp2
    go_ret
    exact ⟨by rw [HL.out]; rfl, hEf⟩
  · obtain ⟨q, eq⟩ : ∃ q : Nat, 65400 / mx = q := ⟨_, rfl⟩
    have m4 : (65400 : Int).tdiv (mx : Int) = (q : Int) := by rw [Int.tdiv_eq_ediv_of_nonneg (by decide), ← eq]; rfl
    have hq : q ≤ 65400 := by rw [← eq]; exact Nat.div_le_self _ _
    have q1 : IntKind.i64.wrap (q : Int) = (q : Int) := by rw [IntKind.wrap_i64]; omega
    have m5 : min (n : Int) (q : Int) = (c : Int) := by have h := Hcd.out; rw [emx] at h; simp only [if_true, eq] at h; omega
    have hz : ¬ mx = 0 := by omega
    clear emx eq
    go_enter Tryd.func12, Tryd.ntmps12
    go_upto_region 4 with fail
    refine wp_name fun Y0 hY0 => ?_
    have hE : Ext w Y0 := by rw [hY0.out]; exact (by repeat (first | exact Ext.refl _ | assumption | apply Ext.alloc | apply Ext.drew | apply Ext.drewN | apply Ext.bytes | apply Ext.iter | refine Ext.setCell ?_ (by simp; omega) _ | refine Ext.trans ?_ (by assumption)))
    have H0 := Hd.mk (show Y0.heap[w.heap.size]? = some (.cells #[.string S, .string L, .int .u16 n] 24 (0, 0)) by rw [hY0.out]; exact Ext.blk (Ext.refl _) (heap_alloc_new _ _))
    clear hY0
    have hcc : ∀ w', Ext Y0 w' → w'.cell? ⟨w.heap.size, 1, none⟩ = some (.string L) ∧ w'.cell? ⟨w.heap.size, 2, none⟩ = some (.int .u16 n) := fun w' h => ⟨Ext.cell h (row_cell H0.out rfl), Ext.cell h (row_cell H0.out rfl)⟩
    refine wp_region_x (Ext Y0) false (by kernel_rfl) (by kernel_rfl) (by repeat (first | exact Ext.refl _ | assumption | apply Ext.alloc | apply Ext.drew | apply Ext.drewN | apply Ext.bytes | apply Ext.iter | refine Ext.setCell ?_ (by simp; omega) _ | refine Ext.trans ?_ (by assumption))) ?_
    (repeat (first
     | (refine wpX_skip rfl ?_; (try simp only [Act.put, List.setIfInBounds_toArray, List.set_cons_zero, List.set_cons_succ]))
     | (apply wpX_still; exact rfl; exact rfl; (intro w' hw'; have hcw := hcc w' hw'; go_simp; first | done | exact rfl); (try simp only [Act.put, List.setIfInBounds_toArray, List.set_cons_zero, List.set_cons_succ]))))
    refine wpX_busy rfl rfl ?_
    go_simp
    go_at_call 28
    refine (HR.out _).mono ?_
    rintro e wc ⟨rfl, hbc⟩
    refine ⟨_, rfl, (by repeat (first | exact Ext.refl _ | assumption | apply Ext.alloc | apply Ext.drew | apply Ext.drewN | apply Ext.bytes | apply Ext.iter | refine Ext.setCell ?_ (by simp; omega) _ | refine Ext.trans ?_ (by assumption))), ?_⟩
    (try simp only [Act.put, List.setIfInBounds_toArray, List.set_cons_zero, List.set_cons_succ])
    (repeat (first
     | (refine wpX_skip rfl ?_; (try simp only [Act.put, List.setIfInBounds_toArray, List.set_cons_zero, List.set_cons_succ]))
     | (apply wpX_still; exact rfl; exact rfl; (intro w' hw'; have hcw := hcc w' hw'; go_simp; first | done | exact rfl); (try simp only [Act.put, List.setIfInBounds_toArray, List.set_cons_zero, List.set_cons_succ]))))
    refine wpX_nil fun wf hwf => ?_
    have hEf : Ext w wf := by rw [hwf.out]; exact (by repeat (first | exact Ext.refl _ | assumption | apply Ext.alloc | apply Ext.drew | apply Ext.drewN | apply Ext.bytes | apply Ext.iter | refine Ext.setCell ?_ (by simp; omega) _ | refine Ext.trans ?_ (by assumption)))
    go_wp2
    go_ret
    exact ⟨by rw [HL.out]; rfl, hEf⟩
end Go.Proofs.YtimecmleaeimkaaDoor
