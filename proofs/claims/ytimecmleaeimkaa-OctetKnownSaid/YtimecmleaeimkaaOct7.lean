/- The law's helpers says, stops, is, fails with their closures; Cut at a zero octet; Text. -/
import Derived.Test.YtimecmleaeimkaaOct6
namespace Go.Proofs.Ytimecmleaeimkaa
open Go.RowKit
set_option linter.unusedVariables false

/-- A closure with one captured variable at block g. -/
def clo (f g : Nat) : Value := .func (.func f) #[] #[.pointer (some ⟨g, 0, none⟩)]
/-- A call hands back such a closure, its variable holding v. -/
def RetClo (w : World) (f : Nat) (v : Value) (e : Ending) (w' : World) : Prop := ∃ g, e = .returned (clo f g) ∧ w'.cell? ⟨g, 0, none⟩ = some v ∧ Ext w w'

set_option maxHeartbeats 400000 in
theorem says_c (x : Int) (w : World) : Calls Try.prog 20 #[.int .i64 x] w (RetClo w 42 (.int .i64 x)) := by
  go_enter Try.func20, Try.ntmps20
  go_wp2
  go_ret
  exact ⟨w.heap.size, rfl, by simp, (by repeat (first | exact Ext.refl _ | assumption | apply Ext.alloc | apply Ext.drew | apply Ext.drewN | apply Ext.bytes | apply Ext.iter | refine Ext.setCell ?_ (by simp; omega) _ | refine Ext.trans ?_ (by assumption)))⟩
set_option maxHeartbeats 400000 in
theorem says1_c (n : Int) (e : Int) (x : Int) (g : Nat) (w : World) (hc : w.cell? ⟨g, 0, none⟩ = some (.int .i64 x)) : Calls Try.prog 42 #[.int .i64 n, .int .i64 e, .pointer (some ⟨g, 0, none⟩)] w (Ret w (.bool (n == x && e == 0))) := by
  cases h : (n == x)
  all_goals
    go_enter Try.func42, Try.ntmps42
    go_wp2
    go_ret
    exact ⟨rfl, (by repeat (first | exact Ext.refl _ | assumption | apply Ext.alloc | apply Ext.drew | apply Ext.drewN | apply Ext.bytes | apply Ext.iter | refine Ext.setCell ?_ (by simp; omega) _ | refine Ext.trans ?_ (by assumption)))⟩
set_option maxHeartbeats 400000 in
theorem stops_c (x : Int) (w : World) : Calls Try.prog 22 #[.int .i64 x] w (RetClo w 44 (.int .i64 x)) := by
  go_enter Try.func22, Try.ntmps22
  go_wp2
  go_ret
  exact ⟨w.heap.size, rfl, by simp, (by repeat (first | exact Ext.refl _ | assumption | apply Ext.alloc | apply Ext.drew | apply Ext.drewN | apply Ext.bytes | apply Ext.iter | refine Ext.setCell ?_ (by simp; omega) _ | refine Ext.trans ?_ (by assumption)))⟩
set_option maxHeartbeats 400000 in
theorem stops1_c (n : Int) (e : Int) (x : Int) (g : Nat) (w : World) (hc : w.cell? ⟨g, 0, none⟩ = some (.int .i64 x)) : Calls Try.prog 44 #[.int .i64 n, .int .i64 e, .pointer (some ⟨g, 0, none⟩)] w (Ret w (.bool (n == 0 && e == x))) := by
  cases h : (n == 0)
  all_goals
    go_enter Try.func44, Try.ntmps44
    go_wp2
    go_ret
    exact ⟨rfl, (by repeat (first | exact Ext.refl _ | assumption | apply Ext.alloc | apply Ext.drew | apply Ext.drewN | apply Ext.bytes | apply Ext.iter | refine Ext.setCell ?_ (by simp; omega) _ | refine Ext.trans ?_ (by assumption)))⟩
set_option maxHeartbeats 400000 in
theorem is_c (x : ByteArray) (w : World) : Calls Try.prog 25 #[.string x] w (RetClo w 45 (.string x)) := by
  go_enter Try.func25, Try.ntmps25
  go_wp2
  go_ret
  exact ⟨w.heap.size, rfl, by simp, (by repeat (first | exact Ext.refl _ | assumption | apply Ext.alloc | apply Ext.drew | apply Ext.drewN | apply Ext.bytes | apply Ext.iter | refine Ext.setCell ?_ (by simp; omega) _ | refine Ext.trans ?_ (by assumption)))⟩
set_option maxHeartbeats 400000 in
theorem is1_c (s : ByteArray) (e : Int) (x : ByteArray) (g : Nat) (w : World) (hc : w.cell? ⟨g, 0, none⟩ = some (.string x)) : Calls Try.prog 45 #[.string s, .int .i64 e, .pointer (some ⟨g, 0, none⟩)] w (Ret w (.bool (s.toList == x.toList && e == 0))) := by
  cases h : (s.toList == x.toList)
  all_goals
    go_enter Try.func45, Try.ntmps45
    go_wp2
    go_ret
    exact ⟨rfl, (by repeat (first | exact Ext.refl _ | assumption | apply Ext.alloc | apply Ext.drew | apply Ext.drewN | apply Ext.bytes | apply Ext.iter | refine Ext.setCell ?_ (by simp; omega) _ | refine Ext.trans ?_ (by assumption)))⟩
set_option maxHeartbeats 400000 in
theorem fails_c (x : Int) (w : World) : Calls Try.prog 27 #[.int .i64 x] w (RetClo w 46 (.int .i64 x)) := by
  go_enter Try.func27, Try.ntmps27
  go_wp2
  go_ret
  exact ⟨w.heap.size, rfl, by simp, (by repeat (first | exact Ext.refl _ | assumption | apply Ext.alloc | apply Ext.drew | apply Ext.drewN | apply Ext.bytes | apply Ext.iter | refine Ext.setCell ?_ (by simp; omega) _ | refine Ext.trans ?_ (by assumption)))⟩
set_option maxHeartbeats 400000 in
theorem fails1_c (s : ByteArray) (e : Int) (x : Int) (g : Nat) (w : World) (hc : w.cell? ⟨g, 0, none⟩ = some (.int .i64 x)) : Calls Try.prog 46 #[.string s, .int .i64 e, .pointer (some ⟨g, 0, none⟩)] w (Ret w (.bool (s.toList.isEmpty && e == x))) := by
  cases h : (s.toList.isEmpty)
  all_goals
    go_enter Try.func46, Try.ntmps46
    go_wp2
    go_ret
    exact ⟨rfl, (by repeat (first | exact Ext.refl _ | assumption | apply Ext.alloc | apply Ext.drew | apply Ext.drewN | apply Ext.bytes | apply Ext.iter | refine Ext.setCell ?_ (by simp; omega) _ | refine Ext.trans ?_ (by assumption)))⟩


theorem indexByte_lt (l : List UInt8) (c : UInt8) : Lib.indexByte l c < l.length := by
  induction l with
  | nil => simp [Lib.indexByte]
  | cons b l ih =>
    unfold Lib.indexByte
    split
    · simp only [List.length_cons]; omega
    · split <;> simp only [List.length_cons] <;> omega

def ixz (s : ByteArray) : Int := Lib.indexByte s.data.toList 0
def cutS (s : ByteArray) : ByteArray := if 0 ≤ ixz s then s.extract 0 (ixz s).toNat else s
def CutRet (w : World) (s : ByteArray) (e : Ending) (w' : World) : Prop := ∃ y b, e = .returned (.tuple #[.string (cutS s), .string y, .bool b]) ∧ Ext w w'

set_option maxHeartbeats 400000 in
theorem scut_c (s : ByteArray) (hs : s.size ≤ 140737488355328) (w : World) : Calls Try.prog 56 #[.string s, .string ⟨#[0]⟩] w (CutRet w s) := by
  have hb := indexByte_lt s.data.toList 0
  have hb2 := Lib.indexByte_ge s.data.toList 0
  obtain ⟨i, ei⟩ : ∃ i, i = ixz s := ⟨_, rfl⟩
  by_cases h : 0 ≤ i
  · have hsl : s.data.toList.length = s.size := Array.length_toList
    have hi : i < s.size := by rw [ei]; unfold ixz; omega
    have HC := Hd.mk (show cutS s = s.extract 0 i.toNat by unfold cutS; rw [← ei, if_pos h])
    have EI := Hd.mk (show Lib.indexByte s.data.toList 0 = i from ei.symm)
    clear ei hb hb2 hsl
    go_enter Try.func56, Try.ntmps56
    go_wp2_with (go_at_call 59; refine (Try.stringslite_Index_one _ _ _).mono ?_; rw [EI.out]; rintro e w2 ⟨rfl, rfl⟩)
    have hi2 : i ≤ s.size := by omega
    have hi3 : i + 1 ≤ s.size := by omega
    have hi4 : 0 ≤ i + 1 := by omega
    have hw1 : IntKind.i64.wrap (i + 1) = i + 1 := IntWalk.i64_in _ (by omega)
    (refine wp_region_free (Ext w2) (by kernel_rfl) (by kernel_rfl) (by first | exact (by repeat (first | exact Ext.refl _ | assumption | apply Ext.alloc | apply Ext.drew | apply Ext.drewN | apply Ext.bytes | apply Ext.iter | refine Ext.setCell ?_ (by simp; omega) _ | refine Ext.trans ?_ (by assumption))) | skip) ?_
     repeat (first
       | (refine wpFree_skip rfl ?_; (try simp only [Act.put, List.setIfInBounds_toArray, List.set_cons_zero, List.set_cons_succ]))
       | (apply wpFree_step; exact rfl; (intro w' hw'; go_simp; first | exact rfl | exact ⟨hw', rfl⟩ | exact ⟨(by repeat (first | exact Ext.refl _ | assumption | apply Ext.alloc | apply Ext.drew | apply Ext.drewN | apply Ext.bytes | apply Ext.iter | refine Ext.setCell ?_ (by simp; omega) _ | refine Ext.trans ?_ (by assumption))), rfl⟩); (try simp only [Act.put, List.setIfInBounds_toArray, List.set_cons_zero, List.set_cons_succ])))
     refine wpFree_nil (fun wq hq => ?_))
    go_wp2
    go_ret3
    exact ⟨_, _, by rw [HC.out]; rfl, (by repeat (first | exact Ext.refl _ | assumption | apply Ext.alloc | apply Ext.drew | apply Ext.drewN | apply Ext.bytes | apply Ext.iter | refine Ext.setCell ?_ (by simp; omega) _ | refine Ext.trans ?_ (by assumption)))⟩
  · have hi : i < 0 := by omega
    have HC := Hd.mk (show cutS s = s by unfold cutS; rw [← ei, if_neg h])
    have EI := Hd.mk (show Lib.indexByte s.data.toList 0 = i from ei.symm)
    clear ei hb hb2 h
    go_enter Try.func56, Try.ntmps56
    go_wp2_with (go_at_call 59; refine (Try.stringslite_Index_one _ _ _).mono ?_; rw [EI.out]; rintro e w2 ⟨rfl, rfl⟩)
    go_ret3
    exact ⟨_, _, by rw [HC.out]; rfl, (by repeat (first | exact Ext.refl _ | assumption | apply Ext.alloc | apply Ext.drew | apply Ext.drewN | apply Ext.bytes | apply Ext.iter | refine Ext.setCell ?_ (by simp; omega) _ | refine Ext.trans ?_ (by assumption)))⟩

set_option maxHeartbeats 400000 in
theorem cut_c (s : ByteArray) (hs : s.size ≤ 140737488355328) (w : World) : Calls Try.prog 47 #[.string s, .string ⟨#[0]⟩] w (CutRet w s) := by
  go_enter Try.func47, Try.ntmps47
  go_wp2_with (go_at_call 56; refine (scut_c _ hs _).mono ?_; rintro e w2 ⟨y, b, rfl, hb⟩)
  go_ret3
  exact ⟨_, _, rfl, (by repeat (first | exact Ext.refl _ | assumption | apply Ext.alloc | apply Ext.drew | apply Ext.drewN | apply Ext.bytes | apply Ext.iter | refine Ext.setCell ?_ (by simp; omega) _ | refine Ext.trans ?_ (by assumption)))⟩

theorem cutS_size (s : ByteArray) : (cutS s).size ≤ s.size := by
  unfold cutS
  split
  · rw [ByteArray.size_extract]; omega
  · exact Nat.le_refl _
def textC (p c : ByteArray) : ByteArray × Int :=
  if ((p.extract c.size p.size).toList == (zeroS (p.size - c.size)).toList && prt c c.size) = true then (c, 0) else (⟨#[]⟩, 5)
def textS (s : ByteArray) (a n : Int) : ByteArray × Int :=
  if (partS s a n).2 = 0 then textC (partS s a n).1 (cutS (partS s a n).1) else (⟨#[]⟩, (partS s a n).2)

set_option maxHeartbeats 400000 in
theorem Text_c (s : ByteArray) (a n : Int) (hs : s.size ≤ 140737488351232) (w : World) : Calls Try.prog 28 #[.string s, .int .i64 a, .int .i64 n] w (Ret w (.tuple #[.string (textS s a n).1, .int .i64 (textS s a n).2])) := by
  have hsz := partS_size s a n
  have HG : textS s a n = if (partS s a n).2 = 0 then textC (partS s a n).1 (cutS (partS s a n).1) else (⟨#[]⟩, (partS s a n).2) := rfl
  have hpl : (partS s a n).1.size ≤ s.size := by
    unfold partS
    repeat' split
    all_goals first | (show 0 ≤ s.size; omega) | (rw [ByteArray.size_extract]; omega)
  obtain ⟨p, e⟩ : ∃ p, p = partS s a n := ⟨_, rfl⟩
  rw [← e] at hsz HG hpl
  generalize textS s a n = G at *
  have E := Hd.mk e
  clear e
  obtain ⟨p1, p2⟩ := p
  simp only at HG hsz hpl
  by_cases he : p2 = 0
  · subst he
    rw [if_pos rfl] at HG
    have hn := hsz rfl
    clear hsz
    have hp3 : p1.size ≤ 140737488351232 := by omega
    have hcs := cutS_size p1
    obtain ⟨c, ec⟩ : ∃ c, c = cutS p1 := ⟨_, rfl⟩
    rw [← ec] at HG hcs
    have EC := Hd.mk ec
    have HG' := Hd.mk HG
    clear ec hpl HG
    go_enter Try.func28, Try.ntmps28
    go_wp2_with (first | (go_at_call 26; refine (Part_c _ _ _ _).mono ?_; rw [← E.out]; rintro e w1 ⟨rfl, hb⟩) | (go_at_call 47; refine (cut_c _ (by omega) _).mono ?_; unfold CutRet; rw [← EC.out]; rintro e w2 ⟨y, b, rfl, hb2⟩))
    obtain ⟨d, ed⟩ : ∃ d, d = p1.extract c.size p1.size := ⟨_, rfl⟩
    obtain ⟨z, ez⟩ : ∃ z, z = zeroS (p1.size - c.size) := ⟨_, rfl⟩
    rw [← ed]
    have EZ := Hd.mk (show zeroS (n - (c.size : Int)).toNat = z by rw [ez]; congr 1; omega)
    have HT := Hd.mk (show G = if (d.toList == z.toList && prt c c.size) = true then (c, 0) else (⟨#[]⟩, 5) by rw [HG'.out]; unfold textC; rw [← ed, ← ez])
    clear ed ez HG'
    have hc : ∀ w', Ext (w2.alloc (.cells #[.string c, .string d] 73)) w' → w'.cell? ⟨w2.heap.size, 0, none⟩ = some (.string c) ∧ w'.cell? ⟨w2.heap.size, 1, none⟩ = some (.string d) := fun w' h' => ⟨Ext.cell h' (by simp), Ext.cell h' (by simp)⟩
    have hc0 := fun w' h' => (hc w' h').1
    have hc1 := fun w' h' => (hc w' h').2
    clear hc
    have hn1 : 0 ≤ n - (c.size : Int) := by omega
    have hw1 : IntKind.i64.wrap (n - (c.size : Int)) = n - (c.size : Int) := IntWalk.i64_in _ (by omega)
    have hrep : ∀ w', Calls Try.prog 19 #[.string ⟨#[0]⟩, .int .i64 (n - (c.size : Int))] w' (Ret w' (.string z)) := fun w' => by
      have h := Repeat0_c (n - (c.size : Int)) (by omega) (by omega) w'
      rwa [EZ.out] at h
    cases hd : (d.toList == z.toList)
    · have HQ := Hd.mk (show G = (⟨#[]⟩, 5) by rw [HT.out, hd]; rfl)
      (refine wp_region_free (Ext (w2.alloc (.cells #[.string c, .string d] 73))) (by kernel_rfl) (by kernel_rfl) (by first | exact (by repeat (first | exact Ext.refl _ | assumption | apply Ext.alloc | apply Ext.drew | apply Ext.drewN | apply Ext.bytes | apply Ext.iter | refine Ext.setCell ?_ (by simp; omega) _ | refine Ext.trans ?_ (by assumption))) | skip) ?_
       repeat (first
         | (refine wpFree_skip rfl ?_; (try simp only [Act.put, List.setIfInBounds_toArray, List.set_cons_zero, List.set_cons_succ]))
         | (apply wpFree_step; exact rfl; (intro w' hw'; go_simp; first | exact rfl | exact ⟨hw', rfl⟩ | exact ⟨(by repeat (first | exact Ext.refl _ | assumption | apply Ext.alloc | apply Ext.drew | apply Ext.drewN | apply Ext.bytes | apply Ext.iter | refine Ext.setCell ?_ (by simp; omega) _ | refine Ext.trans ?_ (by assumption))), rfl⟩ | exact Ret.free (hrep _) hw'); (try simp only [Act.put, List.setIfInBounds_toArray, List.set_cons_zero, List.set_cons_succ])))
       refine wpFree_nil (fun wq hq => ?_))
      go_wp2
      go_ret2
      exact ⟨by rw [HQ.out]; rfl, (by repeat (first | exact Ext.refl _ | assumption | apply Ext.alloc | apply Ext.drew | apply Ext.drewN | apply Ext.bytes | apply Ext.iter | refine Ext.setCell ?_ (by simp; omega) _ | refine Ext.trans ?_ (by assumption)))⟩
    · cases hp : prt c c.size
      · have HQ := Hd.mk (show G = (⟨#[]⟩, 5) by rw [HT.out, hd, hp]; rfl)
        have hpr : ∀ w', Calls Try.prog 33 #[.string c] w' (Ret w' (.bool false)) := fun w' => by
          have h := printed_c c w'
          rwa [hp] at h
        (refine wp_region_free (Ext (w2.alloc (.cells #[.string c, .string d] 73))) (by kernel_rfl) (by kernel_rfl) (by first | exact (by repeat (first | exact Ext.refl _ | assumption | apply Ext.alloc | apply Ext.drew | apply Ext.drewN | apply Ext.bytes | apply Ext.iter | refine Ext.setCell ?_ (by simp; omega) _ | refine Ext.trans ?_ (by assumption))) | skip) ?_
         repeat (first
           | (refine wpFree_skip rfl ?_; (try simp only [Act.put, List.setIfInBounds_toArray, List.set_cons_zero, List.set_cons_succ]))
           | (apply wpFree_step; exact rfl; (intro w' hw'; go_simp; first | exact rfl | exact ⟨hw', rfl⟩ | exact ⟨(by repeat (first | exact Ext.refl _ | assumption | apply Ext.alloc | apply Ext.drew | apply Ext.drewN | apply Ext.bytes | apply Ext.iter | refine Ext.setCell ?_ (by simp; omega) _ | refine Ext.trans ?_ (by assumption))), rfl⟩ | exact Ret.free (hrep _) hw' | exact Ret.free (hpr _) hw'); (try simp only [Act.put, List.setIfInBounds_toArray, List.set_cons_zero, List.set_cons_succ])))
         refine wpFree_nil (fun wq hq => ?_))
        go_wp2
        go_ret2
        exact ⟨by rw [HQ.out]; rfl, (by repeat (first | exact Ext.refl _ | assumption | apply Ext.alloc | apply Ext.drew | apply Ext.drewN | apply Ext.bytes | apply Ext.iter | refine Ext.setCell ?_ (by simp; omega) _ | refine Ext.trans ?_ (by assumption)))⟩
      · have HQ := Hd.mk (show G = (c, 0) by rw [HT.out, hd, hp]; rfl)
        have hpr : ∀ w', Calls Try.prog 33 #[.string c] w' (Ret w' (.bool true)) := fun w' => by
          have h := printed_c c w'
          rwa [hp] at h
        (refine wp_region_free (Ext (w2.alloc (.cells #[.string c, .string d] 73))) (by kernel_rfl) (by kernel_rfl) (by first | exact (by repeat (first | exact Ext.refl _ | assumption | apply Ext.alloc | apply Ext.drew | apply Ext.drewN | apply Ext.bytes | apply Ext.iter | refine Ext.setCell ?_ (by simp; omega) _ | refine Ext.trans ?_ (by assumption))) | skip) ?_
         repeat (first
           | (refine wpFree_skip rfl ?_; (try simp only [Act.put, List.setIfInBounds_toArray, List.set_cons_zero, List.set_cons_succ]))
           | (apply wpFree_step; exact rfl; (intro w' hw'; go_simp; first | exact rfl | exact ⟨hw', rfl⟩ | exact ⟨(by repeat (first | exact Ext.refl _ | assumption | apply Ext.alloc | apply Ext.drew | apply Ext.drewN | apply Ext.bytes | apply Ext.iter | refine Ext.setCell ?_ (by simp; omega) _ | refine Ext.trans ?_ (by assumption))), rfl⟩ | exact Ret.free (hrep _) hw' | exact Ret.free (hpr _) hw'); (try simp only [Act.put, List.setIfInBounds_toArray, List.set_cons_zero, List.set_cons_succ])))
         refine wpFree_nil (fun wq hq => ?_))
        go_wp2
        go_ret2
        exact ⟨by rw [HQ.out]; rfl, (by repeat (first | exact Ext.refl _ | assumption | apply Ext.alloc | apply Ext.drew | apply Ext.drewN | apply Ext.bytes | apply Ext.iter | refine Ext.setCell ?_ (by simp; omega) _ | refine Ext.trans ?_ (by assumption)))⟩
  · rw [if_neg he] at HG
    have HG' := Hd.mk HG
    have he' : (p2 != 0) = true := by simpa using he
    clear HG hsz he hpl
    go_enter Try.func28, Try.ntmps28
    go_wp2_with (first | (go_at_call 26; refine (Part_c _ _ _ _).mono ?_; rw [← E.out]; rintro e w1 ⟨rfl, hb⟩))
    go_ret2
    exact ⟨by rw [HG'.out]; rfl, (by repeat (first | exact Ext.refl _ | assumption | apply Ext.alloc | apply Ext.drew | apply Ext.drewN | apply Ext.bytes | apply Ext.iter | refine Ext.setCell ?_ (by simp; omega) _ | refine Ext.trans ?_ (by assumption)))⟩
end Go.Proofs.Ytimecmleaeimkaa
