/- The law's octets of a drafted text: how many at most. -/
import Derived.Test.YtimecmleaeimkaaOct7
namespace Go.Proofs.Ytimecmleaeimkaa
open Go.RowKit
set_option linter.unusedVariables false

def headS (S : ByteArray) : ByteArray := S.extract 0 (min (S.size : Int) 300).toNat
theorem headS_size (S : ByteArray) : (headS S).size ≤ 300 := by unfold headS; rw [ByteArray.size_extract]; omega
def longC (s : ByteArray) (T : Int) : Int := min T (65700 / max (s.size : Int) 1)
def longS (S L : ByteArray) (T : Int) : ByteArray := (⟨(Lib.repeatL (headS S).data.toList (longC (headS S) T).toNat).toArray⟩ : ByteArray) ++ headS L
theorem longC_bd (s : ByteArray) (T : Int) (hs : s.size ≤ 300) (hT0 : 0 ≤ T) : 0 ≤ longC s T ∧ longC s T ≤ T ∧ s.size * (longC s T).toNat ≤ 65700 := by
  unfold longC
  obtain ⟨m, em⟩ : ∃ m : Int, max (s.size : Int) 1 = m := ⟨_, rfl⟩
  have hm : 1 ≤ m ∧ m ≤ 300 ∧ (s.size : Int) ≤ m := by omega
  rw [em]
  obtain ⟨d, ed⟩ : ∃ d : Int, (65700 : Int) / m = d := ⟨_, rfl⟩
  have hd0 : 0 ≤ d := by rw [← ed]; exact Int.ediv_nonneg (by omega) (by omega)
  have hd1 : d * m ≤ 65700 := by rw [← ed]; exact Int.ediv_mul_le _ (by omega)
  rw [ed]
  obtain ⟨c, ec⟩ : ∃ c : Int, min T d = c := ⟨_, rfl⟩
  have hc0 : 0 ≤ c := by omega
  have hcd : c ≤ d := by omega
  rw [ec]
  refine ⟨hc0, by omega, ?_⟩
  have h1 : (s.size : Int) * c ≤ m * d := Int.mul_le_mul hm.2.2 hcd hc0 (by omega)
  have h2 : ((s.size * c.toNat : Nat) : Int) = (s.size : Int) * c := by rw [Int.natCast_mul, Int.toNat_of_nonneg hc0]
  rw [Int.mul_comm] at hd1
  omega
theorem longS_size (S L : ByteArray) (T : Int) (hT0 : 0 ≤ T) : (longS S L T).size ≤ 66000 := by
  have h := (longC_bd (headS S) T (headS_size S) hT0).2.2
  have hl := headS_size L
  unfold longS
  have e : (ByteArray.mk (Lib.repeatL (headS S).data.toList (longC (headS S) T).toNat).toArray).size = (longC (headS S) T).toNat * (headS S).size := by
    show (Lib.repeatL (headS S).data.toList (longC (headS S) T).toNat).toArray.size = _
    rw [List.size_toArray, Lib.repeatL_length, Array.length_toList]; rfl
  rw [ByteArray.size_append, e, Nat.mul_comm]
  omega

set_option maxHeartbeats 1000000 in
set_option maxRecDepth 100000 in
theorem Long_c (S L : ByteArray) (T : Int) (hS : S.size ≤ 140737488351232) (hL : L.size ≤ 140737488351232) (hT0 : 0 ≤ T) (hT1 : T ≤ 65535) (w : World) :
    Calls Try.prog 14 #[.agg #[.string S, .string L, .int .u16 T]] w (Ret w (.string (longS S L T))) := by
  go_enter Try.func14, Try.ntmps14
  go_wp2
  obtain ⟨s, es⟩ : ∃ s, S.extract 0 (min (S.size : Int) 300).toNat = s := ⟨_, rfl⟩
  have hs : s.size ≤ 300 := by rw [← es, ByteArray.size_extract]; omega
  obtain ⟨l, el⟩ : ∃ l, L.extract 0 (min (L.size : Int) 300).toNat = l := ⟨_, rfl⟩
  have hl : l.size ≤ 300 := by rw [← el, ByteArray.size_extract]; omega
  have HS := Hd.mk (show headS S = s from es)
  have HL := Hd.mk (show headS L = l from el)
  rw [es]
  clear es
  obtain ⟨m, em⟩ : ∃ m : Int, max (s.size : Int) 1 = m := ⟨_, rfl⟩
  have hm : 1 ≤ m ∧ m ≤ 300 ∧ (s.size : Int) ≤ m := by omega
  obtain ⟨d, ed⟩ : ∃ d : Int, (65700 : Int) / m = d := ⟨_, rfl⟩
  have hd0 : 0 ≤ d := by rw [← ed]; exact Int.ediv_nonneg (by omega) (by omega)
  have hd1 : d * m ≤ 65700 := by rw [← ed]; exact Int.ediv_mul_le _ (by omega)
  have hw1 : IntKind.i64.wrap ((65700 : Int).tdiv m) = d := by rw [Int.tdiv_eq_ediv_of_nonneg (by omega), ed]; exact IntWalk.i64_in _ (by have : d * 1 ≤ d * m := Int.mul_le_mul_of_nonneg_left hm.1 hd0; omega)
  obtain ⟨c, ec⟩ : ∃ c : Int, min T d = c := ⟨_, rfl⟩
  have HC := Hd.mk (show longC s T = c by unfold longC; rw [em, ed, ec])
  have hc0 : 0 ≤ c := by omega
  have hcd : c ≤ d := by omega
  have hsc : s.size * c.toNat ≤ 65700 := by
    have h1 : (s.size : Int) * c ≤ m * d := Int.mul_le_mul hm.2.2 hcd hc0 (by omega)
    have h2 : ((s.size * c.toNat : Nat) : Int) = (s.size : Int) * c := by rw [Int.natCast_mul, Int.toNat_of_nonneg hc0]
    rw [Int.mul_comm] at hd1
    omega
  obtain ⟨r, er⟩ : ∃ r : ByteArray, (⟨(Lib.repeatL s.data.toList c.toNat).toArray⟩ : ByteArray) = r := ⟨_, rfl⟩
  have HR := Hd.mk (show longS S L T = r ++ l by unfold longS; rw [HS.out, HL.out, HC.out, er])
  have hr : r.size ≤ 65700 := by
    rw [← er]
    have : (ByteArray.mk (Lib.repeatL s.data.toList c.toNat).toArray).size = c.toNat * s.size := by
      show (Lib.repeatL s.data.toList c.toNat).toArray.size = _
      rw [List.size_toArray, Lib.repeatL_length, Array.length_toList]; rfl
    rw [this, Nat.mul_comm]; exact hsc
  have hcl : c ≤ 65535 := by omega
  have hrep : ∀ w', Calls Try.prog 19 #[.string s, .int .i64 c] w' (Ret w' (.string r)) := fun w' => by
    have h := Try.strings_Repeat s c.toNat w' (by omega) (by omega)
    rw [er, Int.toNat_of_nonneg hc0] at h
    exact h
  have hw2 : IntKind.i64.wrap T = T := IntWalk.i64_in _ (by omega)
  have hadd : ∀ w' : World, (Op.stringOp .add r l).run Try.prog w' = .ok (.string (r ++ l)) w' := fun w' => run_string_add_sum _ _ _ (by omega)
  have hm1 : m ≠ 0 := by omega
  have hn0 : 0 ≤ min (L.size : Int) 300 := by omega
  have hn1 : min (L.size : Int) 300 ≤ L.size := by omega
  have hcell : ∀ w', Ext (w.alloc (.cells #[.string S, .string L, .int .u16 T] 24)) w' → w'.cell? ⟨w.heap.size, 0, none⟩ = some (.string S) ∧ w'.cell? ⟨w.heap.size, 1, none⟩ = some (.string L) ∧ w'.cell? ⟨w.heap.size, 2, none⟩ = some (.int .u16 T) :=
    fun w' h' => ⟨Ext.cell h' (by simp), Ext.cell h' (by simp), Ext.cell h' (by simp)⟩
  have hk0 := fun w' h' => (hcell w' h').1
  have hk1 := fun w' h' => (hcell w' h').2.1
  have hk2 := fun w' h' => (hcell w' h').2.2
  clear hcell ed er hsc hd1 hd0 hcd hcl
  (refine wp_region_free (Ext (w.alloc (.cells #[.string S, .string L, .int .u16 T] 24))) (by kernel_rfl) (by kernel_rfl) (by first | exact (by repeat (first | exact Ext.refl _ | assumption | apply Ext.alloc | apply Ext.drew | apply Ext.drewN | apply Ext.bytes | apply Ext.iter | refine Ext.setCell ?_ (by simp; omega) _ | refine Ext.trans ?_ (by assumption))) | skip) ?_
   repeat (first
     | (refine wpFree_skip rfl ?_; (try simp only [Act.put, List.setIfInBounds_toArray, List.set_cons_zero, List.set_cons_succ]))
     | (apply wpFree_step; exact rfl; (intro w' hw'; go_simp; first | exact rfl | exact ⟨hw', rfl⟩ | exact ⟨(by repeat (first | exact Ext.refl _ | assumption | apply Ext.alloc | apply Ext.drew | apply Ext.drewN | apply Ext.bytes | apply Ext.iter | refine Ext.setCell ?_ (by simp; omega) _ | refine Ext.trans ?_ (by assumption))), rfl⟩ | exact Ret.free (hrep _) hw'); (try simp only [Act.put, List.setIfInBounds_toArray, List.set_cons_zero, List.set_cons_succ])))
   refine wpFree_nil (fun wq hq => ?_))
  go_wp2
  go_ret
  exact ⟨by rw [HR.out]; rfl, (by repeat (first | exact Ext.refl _ | assumption | apply Ext.alloc | apply Ext.drew | apply Ext.drewN | apply Ext.bytes | apply Ext.iter | refine Ext.setCell ?_ (by simp; omega) _ | refine Ext.trans ?_ (by assumption)))⟩
end Go.Proofs.Ytimecmleaeimkaa
