/- The reference's Right, Check, New, More, Done and Sum. -/
import Derived.Test.YtimecmleaeimkaaDoorDigV
namespace Go.Proofs.YtimecmleaeimkaaDoor
open Go.RowKit
set_option linter.unusedVariables false
attribute [local go_sem] q32 q64

def inW (a : Int) : Bool := decide (0 ≤ a) && decide (a < 4294967296)
/-- Is a digest in progress valid? -/
def rightB (x : Q4) (l : Int) (r : ByteArray) : Bool := inW x.a && inW x.b && inW x.c && inW x.d && decide (0 ≤ l) && decide (l ≤ 65536) && decide ((r.size : Int) = l % 64)
theorem rightB_iff (x : Q4) (l : Int) (r : ByteArray) : rightB x l r = true ↔ x.U ∧ 0 ≤ l ∧ l ≤ 65536 ∧ (r.size : Int) = l % 64 := by
  unfold rightB inW
  simp only [Bool.and_eq_true, decide_eq_true_eq]
  constructor
  · rintro ⟨⟨⟨⟨⟨⟨⟨a, a'⟩, b, b'⟩, c, c'⟩, d, d'⟩, e⟩, f⟩, g⟩
    exact ⟨⟨⟨a, a'⟩, ⟨b, b'⟩, ⟨c, c'⟩, ⟨d, d'⟩⟩, e, f, g⟩
  · rintro ⟨⟨⟨a, a'⟩, ⟨b, b'⟩, ⟨c, c'⟩, ⟨d, d'⟩⟩, e, f, g⟩
    exact ⟨⟨⟨⟨⟨⟨⟨a, a'⟩, b, b'⟩, c, c'⟩, d, d'⟩, e⟩, f⟩, g⟩
theorem rightB_no {x : Q4} {l : Int} {r : ByteArray} (h : ¬ (x.U ∧ 0 ≤ l ∧ l ≤ 65536 ∧ (r.size : Int) = l % 64)) : rightB x l r = false := by
  cases hb : rightB x l r with
  | false => rfl
  | true => exact absurd ((rightB_iff x l r).1 hb) h
def dgL (x : Q4) (l : Int) (r : ByteArray) : Array Value := #[.int .i64 x.a, .int .i64 x.b, .int .i64 x.c, .int .i64 x.d, .int .i64 l, .string r]
def dgV (x : Q4) (l : Int) (r : ByteArray) : Value := .agg (dgL x l r)
attribute [local go_sem] dgV dgL

set_option maxHeartbeats 8000000 in
set_option maxRecDepth 100000 in
theorem rightR_c (x : Q4) (l : Int) (r : ByteArray) (w : World) : Calls Tryd.prog 49 #[dgV x l r] w (Ret w (.bool (rightB x l r))) := by
  unfold dgV dgL
  by_cases h : x.a < 0
  · have HR := Hd.mk (rightB_no (x := x) (l := l) (r := r) (fun h => by have := h.1.a.1; omega))
    go_enter Tryd.func49, Tryd.ntmps49
    go_wp2
    refine wp_loop_rounds 5 ?_
    rw [rounds_succ]; go_wp2
    go_ret
    exact ⟨by rw [HR.out]; rfl, (by repeat (first | exact Ext.refl _ | assumption | apply Ext.alloc | apply Ext.drew | apply Ext.drewN | apply Ext.bytes | apply Ext.iter | refine Ext.setCell ?_ (by simp; omega) _ | refine Ext.trans ?_ (by assumption)))⟩
  have ha0 : ¬ x.a < 0 := h
  clear h
  by_cases h : 4294967296 ≤ x.a
  · have HR := Hd.mk (rightB_no (x := x) (l := l) (r := r) (fun h => by have := h.1.a.2; omega))
    go_enter Tryd.func49, Tryd.ntmps49
    go_wp2
    refine wp_loop_rounds 5 ?_
    rw [rounds_succ]; go_wp2
    go_ret
    exact ⟨by rw [HR.out]; rfl, (by repeat (first | exact Ext.refl _ | assumption | apply Ext.alloc | apply Ext.drew | apply Ext.drewN | apply Ext.bytes | apply Ext.iter | refine Ext.setCell ?_ (by simp; omega) _ | refine Ext.trans ?_ (by assumption)))⟩
  have ha1 : ¬ 4294967296 ≤ x.a := h
  clear h
  have hua : 0 ≤ x.a ∧ x.a < 4294967296 := by omega
  clear ha0 ha1
  by_cases h : x.b < 0
  · have HR := Hd.mk (rightB_no (x := x) (l := l) (r := r) (fun h => by have := h.1.b.1; omega))
    go_enter Tryd.func49, Tryd.ntmps49
    go_wp2
    refine wp_loop_rounds 5 ?_
    rw [rounds_succ]; go_wp2
    rw [rounds_succ]; go_wp2
    go_ret
    exact ⟨by rw [HR.out]; rfl, (by repeat (first | exact Ext.refl _ | assumption | apply Ext.alloc | apply Ext.drew | apply Ext.drewN | apply Ext.bytes | apply Ext.iter | refine Ext.setCell ?_ (by simp; omega) _ | refine Ext.trans ?_ (by assumption)))⟩
  have hb0 : ¬ x.b < 0 := h
  clear h
  by_cases h : 4294967296 ≤ x.b
  · have HR := Hd.mk (rightB_no (x := x) (l := l) (r := r) (fun h => by have := h.1.b.2; omega))
    go_enter Tryd.func49, Tryd.ntmps49
    go_wp2
    refine wp_loop_rounds 5 ?_
    rw [rounds_succ]; go_wp2
    rw [rounds_succ]; go_wp2
    go_ret
    exact ⟨by rw [HR.out]; rfl, (by repeat (first | exact Ext.refl _ | assumption | apply Ext.alloc | apply Ext.drew | apply Ext.drewN | apply Ext.bytes | apply Ext.iter | refine Ext.setCell ?_ (by simp; omega) _ | refine Ext.trans ?_ (by assumption)))⟩
  have hb1 : ¬ 4294967296 ≤ x.b := h
  clear h
  have hub : 0 ≤ x.b ∧ x.b < 4294967296 := by omega
  clear hb0 hb1
  by_cases h : x.c < 0
  · have HR := Hd.mk (rightB_no (x := x) (l := l) (r := r) (fun h => by have := h.1.c.1; omega))
    go_enter Tryd.func49, Tryd.ntmps49
    go_wp2
    refine wp_loop_rounds 5 ?_
    rw [rounds_succ]; go_wp2
    rw [rounds_succ]; go_wp2
    rw [rounds_succ]; go_wp2
    go_ret
    exact ⟨by rw [HR.out]; rfl, (by repeat (first | exact Ext.refl _ | assumption | apply Ext.alloc | apply Ext.drew | apply Ext.drewN | apply Ext.bytes | apply Ext.iter | refine Ext.setCell ?_ (by simp; omega) _ | refine Ext.trans ?_ (by assumption)))⟩
  have hc0 : ¬ x.c < 0 := h
  clear h
  by_cases h : 4294967296 ≤ x.c
  · have HR := Hd.mk (rightB_no (x := x) (l := l) (r := r) (fun h => by have := h.1.c.2; omega))
    go_enter Tryd.func49, Tryd.ntmps49
    go_wp2
    refine wp_loop_rounds 5 ?_
    rw [rounds_succ]; go_wp2
    rw [rounds_succ]; go_wp2
    rw [rounds_succ]; go_wp2
    go_ret
    exact ⟨by rw [HR.out]; rfl, (by repeat (first | exact Ext.refl _ | assumption | apply Ext.alloc | apply Ext.drew | apply Ext.drewN | apply Ext.bytes | apply Ext.iter | refine Ext.setCell ?_ (by simp; omega) _ | refine Ext.trans ?_ (by assumption)))⟩
  have hc1 : ¬ 4294967296 ≤ x.c := h
  clear h
  have huc : 0 ≤ x.c ∧ x.c < 4294967296 := by omega
  clear hc0 hc1
  by_cases h : x.d < 0
  · have HR := Hd.mk (rightB_no (x := x) (l := l) (r := r) (fun h => by have := h.1.d.1; omega))
    go_enter Tryd.func49, Tryd.ntmps49
    go_wp2
    refine wp_loop_rounds 5 ?_
    rw [rounds_succ]; go_wp2
    rw [rounds_succ]; go_wp2
    rw [rounds_succ]; go_wp2
    rw [rounds_succ]; go_wp2
    go_ret
    exact ⟨by rw [HR.out]; rfl, (by repeat (first | exact Ext.refl _ | assumption | apply Ext.alloc | apply Ext.drew | apply Ext.drewN | apply Ext.bytes | apply Ext.iter | refine Ext.setCell ?_ (by simp; omega) _ | refine Ext.trans ?_ (by assumption)))⟩
  have hd0 : ¬ x.d < 0 := h
  clear h
  by_cases h : 4294967296 ≤ x.d
  · have HR := Hd.mk (rightB_no (x := x) (l := l) (r := r) (fun h => by have := h.1.d.2; omega))
    go_enter Tryd.func49, Tryd.ntmps49
    go_wp2
    refine wp_loop_rounds 5 ?_
    rw [rounds_succ]; go_wp2
    rw [rounds_succ]; go_wp2
    rw [rounds_succ]; go_wp2
    rw [rounds_succ]; go_wp2
    go_ret
    exact ⟨by rw [HR.out]; rfl, (by repeat (first | exact Ext.refl _ | assumption | apply Ext.alloc | apply Ext.drew | apply Ext.drewN | apply Ext.bytes | apply Ext.iter | refine Ext.setCell ?_ (by simp; omega) _ | refine Ext.trans ?_ (by assumption)))⟩
  have hd1 : ¬ 4294967296 ≤ x.d := h
  clear h
  have hud : 0 ≤ x.d ∧ x.d < 4294967296 := by omega
  clear hd0 hd1
  have hxU : x.U := ⟨hua, hub, huc, hud⟩
  by_cases h : l < 0
  · have HR := Hd.mk (rightB_no (x := x) (l := l) (r := r) (fun h => by omega))
    clear hxU
    go_enter Tryd.func49, Tryd.ntmps49
    go_wp2
    refine wp_loop_rounds 5 ?_
    rw [rounds_succ]; go_wp2
    rw [rounds_succ]; go_wp2
    rw [rounds_succ]; go_wp2
    rw [rounds_succ]; go_wp2
    rw [rounds_succ]; go_wp2
    go_ret
    exact ⟨by rw [HR.out]; rfl, (by repeat (first | exact Ext.refl _ | assumption | apply Ext.alloc | apply Ext.drew | apply Ext.drewN | apply Ext.bytes | apply Ext.iter | refine Ext.setCell ?_ (by simp; omega) _ | refine Ext.trans ?_ (by assumption)))⟩
  have hl0 : ¬ l < 0 := h
  clear h
  by_cases h : 65536 < l
  · have HR := Hd.mk (rightB_no (x := x) (l := l) (r := r) (fun h => by omega))
    clear hxU
    go_enter Tryd.func49, Tryd.ntmps49
    go_wp2
    refine wp_loop_rounds 5 ?_
    rw [rounds_succ]; go_wp2
    rw [rounds_succ]; go_wp2
    rw [rounds_succ]; go_wp2
    rw [rounds_succ]; go_wp2
    rw [rounds_succ]; go_wp2
    go_ret
    exact ⟨by rw [HR.out]; rfl, (by repeat (first | exact Ext.refl _ | assumption | apply Ext.alloc | apply Ext.drew | apply Ext.drewN | apply Ext.bytes | apply Ext.iter | refine Ext.setCell ?_ (by simp; omega) _ | refine Ext.trans ?_ (by assumption)))⟩
  have hl1 : ¬ 65536 < l := h
  clear h
  have hl : 0 ≤ l ∧ l ≤ 65536 := by omega
  clear hl0 hl1
  cases ht : ((r.size : Int) == l % 64)
  · have HR := Hd.mk (rightB_no (x := x) (l := l) (r := r) (fun h => by rw [beq_eq_false_iff_ne] at ht; exact ht h.2.2.2))
    clear hxU
    go_enter Tryd.func49, Tryd.ntmps49
    go_wp2
    refine wp_loop_rounds 5 ?_
    rw [rounds_succ]; go_wp2
    rw [rounds_succ]; go_wp2
    rw [rounds_succ]; go_wp2
    rw [rounds_succ]; go_wp2
    rw [rounds_succ]; go_wp2
    go_ret
    exact ⟨by rw [HR.out]; rfl, (by repeat (first | exact Ext.refl _ | assumption | apply Ext.alloc | apply Ext.drew | apply Ext.drewN | apply Ext.bytes | apply Ext.iter | refine Ext.setCell ?_ (by simp; omega) _ | refine Ext.trans ?_ (by assumption)))⟩
  · have HR := Hd.mk ((rightB_iff x l r).2 ⟨hxU, hl.1, hl.2, by simpa using ht⟩)
    clear hxU
    go_enter Tryd.func49, Tryd.ntmps49
    go_wp2
    refine wp_loop_rounds 5 ?_
    rw [rounds_succ]; go_wp2
    rw [rounds_succ]; go_wp2
    rw [rounds_succ]; go_wp2
    rw [rounds_succ]; go_wp2
    rw [rounds_succ]; go_wp2
    go_ret
    exact ⟨by rw [HR.out]; rfl, (by repeat (first | exact Ext.refl _ | assumption | apply Ext.alloc | apply Ext.drew | apply Ext.drewN | apply Ext.bytes | apply Ext.iter | refine Ext.setCell ?_ (by simp; omega) _ | refine Ext.trans ?_ (by assumption)))⟩

def checkS (x : Q4) (l : Int) (r : ByteArray) : Int := if rightB x l r then 0 else 80
set_option maxHeartbeats 1000000 in
theorem checkR_c (x : Q4) (l : Int) (r : ByteArray) (w : World) : Calls Tryd.prog 27 #[dgV x l r] w (Ret w (.int .i64 (checkS x l r))) := by
  have HC := Hd.mk (show checkS x l r = if rightB x l r then 0 else 80 from rfl)
  have hR := rightR_c x l r
  unfold dgV dgL at *
  have HR := Hd.mk hR
  clear hR
  cases hr : rightB x l r
  all_goals
    have Hr := Hd.mk hr
    rw [hr] at HR
    clear hr
    go_enter Tryd.func27, Tryd.ntmps27
    go_wp2_with (go_at_call 49; refine (HR.out _).mono ?_; rintro e w1 ⟨rfl, hb⟩)
    go_ret
    exact ⟨by rw [HC.out, Hr.out]; rfl, (by repeat (first | exact Ext.refl _ | assumption | apply Ext.alloc | apply Ext.drew | apply Ext.drewN | apply Ext.bytes | apply Ext.iter | refine Ext.setCell ?_ (by simp; omega) _ | refine Ext.trans ?_ (by assumption)))⟩
end Go.Proofs.YtimecmleaeimkaaDoor
