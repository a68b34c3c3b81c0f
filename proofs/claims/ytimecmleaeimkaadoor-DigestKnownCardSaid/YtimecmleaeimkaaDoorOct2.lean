/- octet.get, put, U8 .. S32, PutU8 .. PutS32: what they hand back. -/
import Derived.Test.YtimecmleaeimkaaDoorOct
namespace Go.Proofs.YtimecmleaeimkaaDoor
open Go.RowKit

def getS (s : ByteArray) (a : Int) (j : Nat) : Int × Int :=
  if (partS s a (widOct j)).2 = 0 then (widOf j (gat (partS s a (widOct j)).1 (partS s a (widOct j)).1.size), 0) else (0, (partS s a (widOct j)).2)

theorem widOct_bd (j : Nat) : 1 ≤ widOct j ∧ widOct j ≤ 4 := by
  unfold widOct; split <;> decide
def wcells (j : Nat) : Array Value := #[.int .i64 (widOct j), .int .i64 (widLow j), .int .i64 (widHigh j), .func (.func (if j = 3 then 100 else 101)) #[] #[]]

set_option maxHeartbeats 400000 in
theorem get_c (s : ByteArray) (a : Int) (j : Nat) (w : World) : Calls Tryd.prog 72 #[.string s, .int .i64 a, .agg (wcells j)] w
    (Ret w (.tuple #[.int .i64 (getS s a j).1, .int .i64 (getS s a j).2])) := by
  have hj := widOct_bd j
  obtain ⟨o, ho⟩ : ∃ o, o = widOct j := ⟨_, rfl⟩
  obtain ⟨lo, hlo⟩ : ∃ o, o = widLow j := ⟨_, rfl⟩
  obtain ⟨hi, hhi⟩ : ∃ o, o = widHigh j := ⟨_, rfl⟩
  obtain ⟨f, hf⟩ : ∃ f, f = (if j = 3 then 100 else 101) := ⟨_, rfl⟩
  have hsz := partS_size s a o
  have HG := Hd.mk (show getS s a j = if (partS s a o).2 = 0 then (widOf j (gat (partS s a o).1 (partS s a o).1.size), 0) else (0, (partS s a o).2) by rw [ho]; rfl)
  show Calls _ _ #[_, _, .agg #[.int .i64 (widOct j), .int .i64 (widLow j), .int .i64 (widHigh j), .func (.func (if j = 3 then 100 else 101)) #[] #[]]] _ _
  rw [← ho, ← hlo, ← hhi, ← hf]
  rw [← ho] at hj
  generalize getS s a j = G at *
  obtain ⟨p, e⟩ : ∃ p, p = partS s a o := ⟨_, rfl⟩
  rw [← e] at hsz HG
  have E := Hd.mk e
  have F := Hd.mk hf
  have hS := Hd.mk hsz
  clear ho hlo hhi hf e hsz
  go_enter Tryd.func72, Tryd.ntmps72
  go_wp2_with (go_at_call 33; refine (Part_c _ _ _ _).mono ?_; rintro e w1 ⟨rfl, hb⟩; rw [← E.out])
  · rename_i h
    have hne : p.2 ≠ 0 := by simpa using h
    go_ret2
    exact ⟨by rw [HG.out, if_neg hne]; rfl, (by repeat (first | exact Ext.refl _ | assumption | apply Ext.alloc | apply Ext.drew | apply Ext.drewN | apply Ext.bytes | apply Ext.iter | refine Ext.setCell ?_ (by simp; omega) _ | refine Ext.trans ?_ (by assumption)))⟩
  · rename_i h _ _
    have he : p.2 = 0 := by simpa using h
    have hs4 : p.1.size ≤ 4 := by have := hS.out he; omega
    have hg := gat_small4 p.1 p.1.size hs4
    have hc : ∀ w', Ext w1 w' → w'.cell? ⟨w.heap.size, 3, none⟩ = some (.func (.func f) #[] #[]) := fun w' h' => Ext.cell h' (Ext.cell hb (by simp))
    have hcall : ∀ w', Calls Tryd.prog f #[.int .i64 (gat p.1 p.1.size)] w' (Ret w' (.int .i64 (widOf j (gat p.1 p.1.size)))) := by
      intro w'
      rw [F.out]
      unfold widOf
      by_cases h3 : j = 3
      · rw [if_pos h3, if_pos h3]
        exact signed_c _ hg.1 hg.2 _
      · rw [if_neg h3, if_neg h3]
        exact plain_c _ _
    clear hg
    have hff : f = 100 ∨ f = 101 := by rw [F.out]; split <;> simp
    rcases hff with rfl | rfl
    all_goals
      (refine wp_region_free (Ext w1) (by kernel_rfl) (by kernel_rfl) (by first | exact (by repeat (first | exact Ext.refl _ | assumption | apply Ext.alloc | apply Ext.drew | apply Ext.drewN | apply Ext.bytes | apply Ext.iter | refine Ext.setCell ?_ (by simp; omega) _ | refine Ext.trans ?_ (by assumption))) | skip) ?_
       repeat (first
         | (refine wpFree_skip rfl ?_; (try simp only [Act.put, List.setIfInBounds_toArray, List.set_cons_zero, List.set_cons_succ]))
         | (apply wpFree_step; exact rfl; (intro w' hw'; go_simp; first | exact rfl | exact ⟨hw', rfl⟩ | exact ⟨(by repeat (first | exact Ext.refl _ | assumption | apply Ext.alloc | apply Ext.drew | apply Ext.drewN | apply Ext.bytes | apply Ext.iter | refine Ext.setCell ?_ (by simp; omega) _ | refine Ext.trans ?_ (by assumption))), rfl⟩ | exact Ret.free (gathered_c _ hs4 _) hw' | exact Ret.free (hcall _) hw'); (try simp only [Act.put, List.setIfInBounds_toArray, List.set_cons_zero, List.set_cons_succ])))
       refine wpFree_nil (fun wq hq => ?_))
      go_wp2
      go_ret2
      exact ⟨by rw [HG.out, if_pos he]; rfl, (by repeat (first | exact Ext.refl _ | assumption | apply Ext.alloc | apply Ext.drew | apply Ext.drewN | apply Ext.bytes | apply Ext.iter | refine Ext.setCell ?_ (by simp; omega) _ | refine Ext.trans ?_ (by assumption)))⟩

set_option maxHeartbeats 400000 in
theorem put_c (n : Int) (j : Nat) (w : World) : Calls Tryd.prog 95 #[.int .i64 n, .agg (wcells j)] w
    (Ret w (.tuple #[.string (putS (widOct j) (widLow j) (widHigh j) n).1, .int .i64 (putS (widOct j) (widLow j) (widHigh j) n).2])) := by
  have ho : widOct j = 1 ∨ widOct j = 2 ∨ widOct j = 4 := by unfold widOct; split <;> simp
  obtain ⟨lo, hlo⟩ : ∃ o, o = widLow j := ⟨_, rfl⟩
  obtain ⟨hi, hhi⟩ : ∃ o, o = widHigh j := ⟨_, rfl⟩
  obtain ⟨f, hf⟩ : ∃ f, f = (if j = 3 then 100 else 101) := ⟨_, rfl⟩
  show Calls _ _ #[_, .agg #[.int .i64 (widOct j), .int .i64 (widLow j), .int .i64 (widHigh j), .func (.func (if j = 3 then 100 else 101)) #[] #[]]] _ _
  rw [← hlo, ← hhi, ← hf]
  clear hlo hhi hf
  obtain ⟨b3, e3⟩ : ∃ b, b = n / 16777216 % 256 := ⟨_, rfl⟩
  obtain ⟨b2, e2⟩ : ∃ b, b = n / 65536 % 256 := ⟨_, rfl⟩
  obtain ⟨b1, e1⟩ : ∃ b, b = n / 256 % 256 := ⟨_, rfl⟩
  obtain ⟨b0, e0⟩ : ∃ b, b = n % 256 := ⟨_, rfl⟩
  have hput : ∀ o : Int, putS o lo hi n = if n < lo ∨ hi < n then (⟨#[]⟩, 2) else (strOfNums ([b3, b2, b1, b0].drop (4 - o).toNat), 0) := by
    intro o; rw [e3, e2, e1, e0]; rfl
  have hcv : ∀ (W : World) (off len : Nat), off + len = 4 →
      (convert 34 9 (.slice (some ⟨W.heap.size, off, none⟩) len len)).run Tryd.prog (W.alloc (.cells #[.int .u8 b3, .int .u8 b2, .int .u8 b1, .int .u8 b0] 158)) =
        .ok (.string (strOfNums ([b3, b2, b1, b0].drop off))) (W.alloc (.cells #[.int .u8 b3, .int .u8 b2, .int .u8 b1, .int .u8 b0] 158)) := by
    intro W off len hl
    refine run_convert_bytes_arg _ 34 5 Tryd.underlying34 Tryd.underlying5 W.heap.size off len len _ (by simp; omega) (fun i hi => ?_) 9 Tryd.underlying9
    simp only [List.getD_eq_getElem?_getD, List.getElem?_drop]
    have h4 : off + i < 4 := by omega
    generalize off + i = k at h4
    match k, h4 with
    | 0, _ => simp
    | 1, _ => simp
    | 2, _ => simp
    | 3, _ => simp
  have hcv2 := fun off len h => hcv (w.alloc (.cells #[.int .i64 (widOct j), .int .i64 lo, .int .i64 hi, .func (.func f) #[] #[]] 109)) off len h
  have E := Hd.mk (And.intro e3 (And.intro e2 (And.intro e1 e0)))
  have HP := Hd.mk hput
  clear hput hcv
  have E3 : (n / 16777216 % 256) = b3 := e3.symm
  have E2 : (n / 65536 % 256) = b2 := e2.symm
  have E1 : (n / 256 % 256) = b1 := e1.symm
  have E0 : (n % 256) = b0 := e0.symm
  clear e3 e2 e1 e0
  rw [World.size_alloc] at hcv2
  rcases ho with ho | ho | ho
  all_goals
    rw [ho] at hcv2 ⊢
    clear ho
    by_cases h : n < lo ∨ hi < n
    · by_cases h' : n < lo
      · go_enter Tryd.func95, Tryd.ntmps95
        go_wp2
        go_ret2
        exact ⟨by rw [HP.out, if_pos h]; rfl, (by repeat (first | exact Ext.refl _ | assumption | apply Ext.alloc | apply Ext.drew | apply Ext.drewN | apply Ext.bytes | apply Ext.iter | refine Ext.setCell ?_ (by simp; omega) _ | refine Ext.trans ?_ (by assumption)))⟩
      · have h2 : hi < n := by omega
        go_enter Tryd.func95, Tryd.ntmps95
        go_wp2
        go_ret2
        exact ⟨by rw [HP.out, if_pos h]; rfl, (by repeat (first | exact Ext.refl _ | assumption | apply Ext.alloc | apply Ext.drew | apply Ext.drewN | apply Ext.bytes | apply Ext.iter | refine Ext.setCell ?_ (by simp; omega) _ | refine Ext.trans ?_ (by assumption)))⟩
    · have h1 : ¬ n < lo := by omega
      have h2 : ¬ hi < n := by omega
      have hc4 := hcv2 0 4 rfl
      have hc2 := hcv2 2 2 rfl
      have hc1 := hcv2 3 1 rfl
      clear hcv2
      go_enter Tryd.func95, Tryd.ntmps95
      go_wp2
      go_ret2
      exact ⟨by rw [HP.out, if_neg h]; rfl, (by repeat (first | exact Ext.refl _ | assumption | apply Ext.alloc | apply Ext.drew | apply Ext.drewN | apply Ext.bytes | apply Ext.iter | refine Ext.setCell ?_ (by simp; omega) _ | refine Ext.trans ?_ (by assumption)))⟩
end Go.Proofs.YtimecmleaeimkaaDoor
