/- The law of a region of open order by the orders of what writes: the calls and stores come in one of a few orders; what only reads is walked as early as may be; a call may panic; behind a store that leaves the class of worlds nothing reads memory. -/
import Derived.Test.YtimecmleaeimkaaDoorBase5
namespace Go.Proofs.YtimecmleaeimkaaDoor
open Go.RowKit
set_option linter.unusedVariables false

/-- What looks into no memory. -/
def pureOp (o : Oper) : Bool :=
  match o.op with
  | .move _ | .assign _ | .pick .. | .extract .. | .build .. => true
  | _ => false
def clsOf (o : Oper) (C : World → Prop) : World → Prop := if pureOp o then fun _ => True else C

section
variable {P : Program} {ops : Array Oper} {md : Region.Mode} {C : World → Prop} {Z : Nat → Bool} {Zp : List PanicEntry → World → Prop}

def busyUponO (P : Program) (C : World → Prop) (Zp : List PanicEntry → World → Prop) (K : Value → World → Prop) : Result Next → Prop
  | .ok (.value u) w' => C w' ∧ K u w'
  | .ok .skip w' => C w' ∧ K undef w'
  | .ok (.enter f args) w' => Calls P f args w' (fun e w'' => (∃ u, e = .returned u ∧ C w'' ∧ K u w'') ∨ (∃ ch, e = .panicked ch ∧ Zp ch w''))
  | _ => False
def busyAtO (P : Program) (o : Oper) (a : Act) (C : World → Prop) (Zp : List PanicEntry → World → Prop) (w : World) (K : Value → World → Prop) : Prop := busyUponO P C Zp K ((execOp a.eval o).run P w)
theorem busyUponO_mono {K K' : Value → World → Prop} (h : ∀ u w, C w → K u w → K' u w) {r : Result Next} (hh : busyUponO P C Zp K r) : busyUponO P C Zp K' r := by
  cases r with
  | halt x w' => exact hh
  | ok n w' =>
    cases n <;> simp only [busyUponO] at hh ⊢
    case value u => exact ⟨hh.1, h _ _ hh.1 hh.2⟩
    case skip => exact ⟨hh.1, h _ _ hh.1 hh.2⟩
    case enter f args =>
      refine hh.mono fun e w'' he => ?_
      rcases he with ⟨u, he, hc, hk⟩ | hp
      · exact .inl ⟨u, he, hc, h _ _ hc hk⟩
      · exact .inr hp
theorem busyAtO_of {o : Oper} {a : Act} {w : World} {K : Value → World → Prop} (h : busyAt P o a C w K) : busyAtO P o a C Zp w K := by
  unfold busyAt at h
  unfold busyAtO
  generalize (execOp a.eval o).run P w = r at *
  cases r with
  | halt x w' => exact h
  | ok n w' =>
    cases n <;> simp only [busyUpon, busyUponO] at h ⊢
    case value u => exact h
    case skip => exact h
    case enter f args => exact h.mono fun e w'' he => .inl he

def qOpO (P : Program) (ops : Array Oper) (C : World → Prop) (Z : Nat → Bool) (Zp : List PanicEntry → World → Prop) (i : Nat) (K : Act → World → Prop) (a : Act) (w : World) : Prop :=
  match ops[i]? with
  | none => K a w
  | some o => if Region.wanted o (yielded ops a.tmps) then (if busy o then busyAtO P o a (fun w' => Z i = true ∨ C w') Zp w (fun u w' => K (a.put o.dst u) w') else ∃ v, stillAt P o a (clsOf o C) v ∧ K (a.put o.dst v) w) else K (a.put o.dst undef) w

/-- The walk along a list of operations. -/
def wpD (P : Program) (ops : Array Oper) (C : World → Prop) (Z : Nat → Bool) (Zp : List PanicEntry → World → Prop) (Q : Act → World → Prop) : List Nat → Act → World → Prop
  | [], a, w => Q a w
  | i :: l, a, w => qOpO P ops C Z Zp i (wpD P ops C Z Zp Q l) a w

theorem qOpO_mono {i : Nat} {a : Act} {w : World} {K K' : Act → World → Prop} (h : ∀ a w, K a w → K' a w) (hh : qOpO P ops C Z Zp i K a w) : qOpO P ops C Z Zp i K' a w := by
  unfold qOpO at *
  split
  · rename_i ho; simp only [ho] at hh; exact h _ _ hh
  · rename_i o ho
    simp only [ho] at hh
    split
    · rename_i hw
      simp only [hw, if_true] at hh
      split
      · rename_i hb
        simp only [hb, if_true] at hh
        unfold busyAtO at *
        exact busyUponO_mono (fun u w' _ hk => h _ _ hk) hh
      · rename_i hb
        simp only [hb] at hh
        obtain ⟨v, h1, h2⟩ := hh
        exact ⟨v, h1, h _ _ h2⟩
    · rename_i hw
      simp only [hw] at hh
      exact h _ _ hh

/-- An operation that only reads, or is not wanted: its one value. -/
def StillO (P : Program) (ops : Array Oper) (C : World → Prop) (o : Oper) (v : Value) (a : Act) : Prop :=
  (Region.wanted o (yielded ops a.tmps) = true ∧ busy o = false ∧ stillAt P o a (clsOf o C) v) ∨ (Region.wanted o (yielded ops a.tmps) = false ∧ v = undef)
theorem StillO.of_same {o : Oper} {v : Value} {a a' : Act} (hy : StillO P ops C o v a) (he : execOp a'.eval o = execOp a.eval o)
    (hw : Region.wanted o (yielded ops a'.tmps) = Region.wanted o (yielded ops a.tmps)) : StillO P ops C o v a' := by
  unfold StillO stillAt at *
  rw [he, hw]
  exact hy
theorem StillO.qOpO {i : Nat} {o : Oper} {v : Value} {a : Act} {w : World} (hi : ops[i]? = some o) (hy : StillO P ops C o v a) {K : Act → World → Prop} (h : K (a.put o.dst v) w) : qOpO P ops C Z Zp i K a w := by
  unfold Go.Proofs.YtimecmleaeimkaaDoor.qOpO
  simp only [hi]
  rcases hy with ⟨hw, hb, hv⟩ | ⟨hw, rfl⟩
  · simp only [hw, if_true, hb, Bool.false_eq_true, if_false]; exact ⟨v, hv, h⟩
  · simp only [hw, Bool.false_eq_true, if_false]; exact h
theorem stillO_of_qOpO {i : Nat} {o : Oper} {a : Act} {w : World} {K : Act → World → Prop} (hi : ops[i]? = some o) (hb : busy o = false) (h : qOpO P ops C Z Zp i K a w) : ∃ v, StillO P ops C o v a ∧ K (a.put o.dst v) w := by
  unfold Go.Proofs.YtimecmleaeimkaaDoor.qOpO at h
  simp only [hi] at h
  by_cases hw : Region.wanted o (yielded ops a.tmps) = true
  · simp only [hw, if_true, hb, Bool.false_eq_true, if_false] at h
    obtain ⟨v, h1, h2⟩ := h
    exact ⟨v, .inl ⟨hw, hb, h1⟩, h2⟩
  · simp only [hw] at h
    exact ⟨undef, .inr ⟨by simpa using hw, rfl⟩, h⟩
def Apart3 (ops : Array Oper) (x y : Oper) : Prop := (∀ d, x.dst = some d → d ∉ y.looksAt ops) ∧ (∀ d, x.dst = some d → y.dst ≠ some d) ∧ (∀ d, y.dst = some d → d ∉ x.looksAt ops)
theorem Apart3.symm {x y : Oper} (h : Apart3 ops x y) : Apart3 ops y x := ⟨h.2.2, fun d hd hx => h.2.1 d hx hd, h.1⟩
theorem qOpO_put {j : Nat} {oi oj : Oper} {v : Value} (hj : ops[j]? = some oj) (hap : Apart3 ops oi oj)
    (hsi : ∀ cs b, oi.op ≠ .select cs b) (hsj : ∀ cs b, oj.op ≠ .select cs b) {K : Act → World → Prop} {a : Act} {w : World}
    (hy : StillO P ops C oi v a) (h : qOpO P ops C Z Zp j K (a.put oi.dst v) w) :
    qOpO P ops C Z Zp j (fun a' w' => StillO P ops C oi v a' ∧ K (a'.put oi.dst v) w') a w := by
  obtain ⟨h1, h2, h3⟩ := hap
  have keep : ∀ (a : Act), StillO P ops C oi v a → ∀ u, StillO P ops C oi v (a.put oj.dst u) := fun a hy u =>
    hy.of_same (execOp_put oi hsi a oj.dst u h3) (wanted_put oi a oj.dst u h3)
  unfold qOpO at *
  simp only [hj] at *
  rw [wanted_put oj a oi.dst v h1] at h
  split
  · rename_i hw
    simp only [hw, if_true] at h
    split
    · rename_i hb
      simp only [hb, if_true] at h
      unfold busyAtO at *
      rw [execOp_put oj hsj a oi.dst v h1] at h
      refine busyUponO_mono (fun u w' _ hk => ?_) h
      rw [Act.put_comm a v u h2] at hk
      exact ⟨keep a hy u, hk⟩
    · rename_i hb
      simp only [hb] at h
      obtain ⟨u, hu, hn⟩ := h
      refine ⟨u, fun w' hw' => ?_, keep a hy u, by rw [← Act.put_comm a v u h2]; exact hn⟩
      have := hu w' hw'
      rwa [execOp_put oj hsj a oi.dst v h1] at this
  · rename_i hw
    simp only [hw] at h
    exact ⟨keep a hy _, by rw [← Act.put_comm a v undef h2]; exact h⟩

/-- What only reads may wait for another operation that it does not touch. -/
theorem wpD_swap {Q : Act → World → Prop} {i j : Nat} {oi oj : Oper} (hi : ops[i]? = some oi) (hj : ops[j]? = some oj) (hb : busy oi = false) (hap : Apart3 ops oi oj)
    (hsi : ∀ cs b, oi.op ≠ .select cs b) (hsj : ∀ cs b, oj.op ≠ .select cs b) {l : List Nat} {a : Act} {w : World} (h : wpD P ops C Z Zp Q (i :: j :: l) a w) : wpD P ops C Z Zp Q (j :: i :: l) a w := by
  obtain ⟨v, hy, hk⟩ := stillO_of_qOpO hi hb h
  exact qOpO_mono (fun a' w' h' => h'.1.qOpO hi h'.2) (qOpO_put hj hap hsi hsj hy hk)
theorem wpD_late {Q : Act → World → Prop} {i : Nat} {oi : Oper} (hi : ops[i]? = some oi) (hb : busy oi = false) (hsel : ∀ (j : Nat) (o : Oper) cs b, ops[j]? = some o → o.op ≠ .select cs b) {l2 : List Nat} :
    ∀ (l1 : List Nat) (a : Act) (w : World), (∀ j ∈ l1, ∃ oj, ops[j]? = some oj ∧ Apart3 ops oi oj) → wpD P ops C Z Zp Q (i :: (l1 ++ l2)) a w → wpD P ops C Z Zp Q (l1 ++ i :: l2) a w
  | [], _, _, _, h => h
  | j :: l1, a, w, hl, h => by
    obtain ⟨oj, hj, hap⟩ := hl j (List.mem_cons_self ..)
    have h1 := wpD_swap hi hj hb hap (fun cs b => hsel i oi cs b hi) (fun cs b => hsel j oj cs b hj) h
    exact qOpO_mono (fun a' w' h' => wpD_late hi hb hsel l1 a' w' (fun k hk => hl k (List.mem_cons_of_mem _ hk)) h') h1

/-! ### Orders -/
def busyI (ops : Array Oper) (i : Nat) : Bool := ((ops[i]?).map busy).getD false
def Waits (md : Region.Mode) (ops : Array Oper) (i k : Nat) : Prop := ∃ o, ops[i]? = some o ∧ ∃ e ∈ o.after, Region.binds md e = true ∧ e.on = k
def Anc (md : Region.Mode) (ops : Array Oper) (i b : Nat) : Prop := ∃ n, AncN md ops n i b
theorem Waits.anc {i k : Nat} (h : Waits md ops i k) : Anc md ops i k := by
  obtain ⟨o, ho, e, he, hb, hk⟩ := h
  exact ⟨1, o, ho, e, he, hb, .inl hk⟩
/-- Nobody waits for a later one. -/
def LinR (md : Region.Mode) (ops : Array Oper) : List Nat → Prop
  | [] => True
  | j :: l => j ∉ l ∧ (∀ b ∈ j :: l, ¬ Anc md ops j b) ∧ LinR md ops l
theorem LinR.drop {i : Nat} {l2 : List Nat} : ∀ {l1 : List Nat}, LinR md ops (l1 ++ i :: l2) → LinR md ops (l1 ++ l2)
  | [], h => h.2.2
  | j :: l1, h => ⟨fun hm => h.1 (by
      rcases List.mem_append.1 hm with h | h
      · exact List.mem_append_left _ h
      · exact List.mem_append_right _ (List.mem_cons_of_mem _ h)), fun b hb => h.2.1 b (by
      rcases List.mem_cons.1 hb with h | h
      · exact h ▸ List.mem_cons_self ..
      · refine List.mem_cons_of_mem _ ?_
        rcases List.mem_append.1 h with h | h
        · exact List.mem_append_left _ h
        · exact List.mem_append_right _ (List.mem_cons_of_mem _ h)), LinR.drop (l1 := l1) h.2.2⟩
theorem LinR.later {i : Nat} {l2 : List Nat} : ∀ {l1 : List Nat}, LinR md ops (l1 ++ i :: l2) → (i ∉ l1 ++ l2) ∧ ∀ j ∈ l1, ¬ Anc md ops j i
  | [], h => ⟨h.1, fun j hj => by cases hj⟩
  | j :: l1, h => by
    obtain ⟨h1, h2⟩ := LinR.later (l1 := l1) h.2.2
    refine ⟨fun hm => ?_, fun k hk => ?_⟩
    · rcases List.mem_cons.1 hm with rfl | hm
      · exact h.1 (List.mem_append_right _ (List.mem_cons_self ..))
      · exact h1 hm
    · rcases List.mem_cons.1 hk with rfl | hk
      · exact h.2.1 i (List.mem_cons_of_mem _ (List.mem_append_right _ (List.mem_cons_self ..)))
      · exact h2 k hk
theorem LinR.filter (p : Nat → Bool) : ∀ {l : List Nat}, LinR md ops l → LinR md ops (l.filter p)
  | [], _ => trivial
  | j :: l, h => by
    rw [List.filter_cons]
    split
    · refine ⟨fun hm => h.1 (List.mem_filter.1 hm).1, fun b hb => h.2.1 b ?_, LinR.filter p h.2.2⟩
      rcases List.mem_cons.1 hb with rfl | hb
      · exact List.mem_cons_self ..
      · exact List.mem_cons_of_mem _ (List.mem_filter.1 hb).1
    · exact LinR.filter p h.2.2

/-- The order of a walk: what only reads comes as early as may be. -/
def GoodS (md : Region.Mode) (ops : Array Oper) : List Nat → Prop
  | [] => True
  | i :: s => i ∉ s ∧ (∀ j ∈ s, ¬ Waits md ops i j) ∧ (busyI ops i = true → ∀ j ∈ s, busyI ops j = true ∨ ∃ b ∈ i :: s, busyI ops b = true ∧ Anc md ops j b) ∧ GoodS md ops s

theorem wpD_sort (hsel : ∀ (j : Nat) (o : Oper) cs b, ops[j]? = some o → o.op ≠ .select cs b)
    (hap : ∀ i j oi oj, ops[i]? = some oi → ops[j]? = some oj → i < j → (∀ e ∈ oj.after, Region.binds md e = true → e.on ≠ i) → oi.apart ops oj = true) {Q : Act → World → Prop} :
    ∀ (s l : List Nat) (a : Act) (w : World), GoodS md ops s → LinR md ops l → (∀ x, x ∈ s ↔ x ∈ l) → (∀ x ∈ s, x < ops.size) → s.filter (busyI ops) = l.filter (busyI ops) →
      wpD P ops C Z Zp Q s a w → wpD P ops C Z Zp Q l a w
  | [], l, a, w, _, _, hm, _, _, h => by
    obtain rfl : l = [] := List.eq_nil_iff_forall_not_mem.2 fun x hx => by have := (hm x).2 hx; cases this
    exact h
  | i :: s, l, a, w, hg, hl, hm, hlt, hf, h => by
    obtain ⟨l1, l2, rfl⟩ := List.append_of_mem ((hm i).1 (List.mem_cons_self ..))
    obtain ⟨hn, hla⟩ := hl.later
    obtain ⟨oi, hi⟩ : ∃ oi, ops[i]? = some oi := ⟨_, Array.getElem?_eq_getElem (hlt i (List.mem_cons_self ..))⟩
    have hm' : ∀ x, x ∈ s ↔ x ∈ l1 ++ l2 := fun x => by
      by_cases hx : x = i
      · subst hx; exact ⟨fun h => absurd h hg.1, fun h => absurd h hn⟩
      · have := hm x
        simp only [List.mem_cons, List.mem_append, hx, false_or] at this ⊢
        exact this
    have hlt' : ∀ x ∈ s, x < ops.size := fun x hx => hlt x (List.mem_cons_of_mem _ hx)
    cases hb : busyI ops i with
    | true =>
      have h1 : l1 = [] := by
        cases l1 with
        | nil => rfl
        | cons j l1 =>
          exfalso
          have hj : j ∈ s := (hm' j).2 (List.mem_cons_self ..)
          rcases hg.2.2.1 hb j hj with hjb | ⟨b, hbm, _, hba⟩
          · rw [List.filter_cons, hb, List.cons_append, List.filter_cons, hjb] at hf
            simp only [if_true] at hf
            injection hf with hf
            subst hf
            exact hg.1 hj
          · exact hl.2.1 b ((hm b).1 hbm) hba
      subst h1
      refine qOpO_mono (fun a' w' h' => wpD_sort hsel hap s l2 a' w' hg.2.2.2 hl.2.2 hm' hlt' ?_ h') h
      rw [List.nil_append, List.filter_cons, List.filter_cons, hb] at hf
      simp only [if_true] at hf
      injection hf
    | false =>
      have hb' : busy oi = false := by simpa [busyI, hi] using hb
      refine wpD_late hi hb' hsel l1 a w (fun j hj => ?_) ?_
      · have hjs : j ∈ s := (hm' j).2 (List.mem_append_left _ hj)
        obtain ⟨oj, hjo⟩ : ∃ oj, ops[j]? = some oj := ⟨_, Array.getElem?_eq_getElem (hlt' j hjs)⟩
        refine ⟨_, hjo, ?_⟩
        have hne : i ≠ j := fun h => by subst h; exact hn (List.mem_append_left _ hj)
        have d1 : ∀ e ∈ oj.after, Region.binds md e = true → e.on ≠ i := fun e he hbd heq => hla j hj (Waits.anc ⟨_, hjo, e, he, hbd, heq⟩)
        have d2 : ∀ e ∈ oi.after, Region.binds md e = true → e.on ≠ j := fun e he hbd heq => hg.2.1 j hjs ⟨_, hi, e, he, hbd, heq⟩
        rcases Nat.lt_or_gt_of_ne hne with h | h
        · exact Oper.apart_spec (hap i j _ _ hi hjo h d1)
        · exact Apart3.symm (Oper.apart_spec (hap j i _ _ hjo hi h d2))
      · refine qOpO_mono (fun a' w' h' => wpD_sort hsel hap s (l1 ++ l2) a' w' hg.2.2.2 hl.drop hm' hlt' ?_ h') h
        rw [List.filter_cons, List.filter_append, List.filter_cons, hb] at hf
        simp only [Bool.false_eq_true, if_false] at hf
        rw [hf, List.filter_append]

theorem wpOps_of_D {Q : Act → World → Prop} {Q' : Exit → Act → World → Prop} (hQ : ∀ a w, Q a w → Q' .normal a w) (hZp : ∀ ch a w, Zp ch w → Q' (.panic ch) a w)
    (hZ : ∀ z, Z z = true → ∀ k o, ops[k]? = some o → busy o = false → pureOp o = false → Anc md ops z k) :
    ∀ (l : List Nat) (a : Act) (w : World), (C w ∨ ∀ k ∈ l, ∀ o, ops[k]? = some o → busy o = false → pureOp o = true) → LinR md ops l → wpD P ops C Z Zp Q l a w → wpOps P ops Q' l a w
  | [], a, w, _, _, h => hQ _ _ h
  | i :: l, a, w, hc, hl, h => by
    have hc' : C w ∨ ∀ k ∈ l, ∀ o, ops[k]? = some o → busy o = false → pureOp o = true := hc.imp id fun h k hk => h k (List.mem_cons_of_mem _ hk)
    rw [wpOps_cons]
    change qOpO P ops C Z Zp i (wpD P ops C Z Zp Q l) a w at h
    unfold qOpO at h
    unfold wpOp
    split
    · rename_i ho; simp only [ho] at h; exact wpOps_of_D hQ hZp hZ l _ _ hc' hl.2.2 h
    · rename_i o ho
      simp only [ho] at h
      split
      · rename_i hw
        simp only [hw, if_true] at h
        left
        unfold Oper.wp
        split at h
        · unfold busyAtO at h
          have next : ∀ a' w', (Z i = true ∨ C w') → wpD P ops C Z Zp Q l a' w' → wpOps P ops Q' l a' w' := fun a' w' hcw hk =>
            wpOps_of_D hQ hZp hZ l a' w' (by
              rcases hcw with hz | hcw
              · refine .inr fun k hk o' ho' hbk => ?_
                cases hp : pureOp o' with
                | true => rfl
                | false => exact absurd (hZ i hz k o' ho' hbk hp) (hl.2.1 k (List.mem_cons_of_mem _ hk))
              · exact .inl hcw) hl.2.2 hk
          generalize (execOp a.eval o).run P w = r at *
          cases r with
          | halt x w' => exact h.elim
          | ok n w' =>
            cases n <;> simp only [busyUponO] at h <;> simp only [Oper.upon]
            case value u => exact next _ _ h.1 h.2
            case skip => exact next _ _ h.1 h.2
            case enter f args =>
              refine h.mono fun e w'' he => ?_
              rcases he with ⟨u, rfl, hcw, hk⟩ | ⟨ch, rfl, hp⟩
              · exact next _ _ hcw hk
              · exact hZp _ _ _ hp
        · rename_i hb
          obtain ⟨v, h1, h2⟩ := h
          have hcl : clsOf o C w := by
            unfold clsOf
            cases hp : pureOp o with
            | true => trivial
            | false =>
              simp only [Bool.false_eq_true, if_false]
              rcases hc with hc | hc
              · exact hc
              · rw [hc i (List.mem_cons_self ..) o ho (by simpa using hb)] at hp; cases hp
          rw [h1 w hcl]
          exact wpOps_of_D hQ hZp hZ l _ _ hc' hl.2.2 h2
      · rename_i hw
        simp only [hw] at h
        exact wpOps_of_D hQ hZp hZ l _ _ hc' hl.2.2 h

theorem filter_less {p q : Nat → Bool} (h : ∀ x, q x = true → p x = true) {y : Nat} (hp : p y = true) (hq : q y = false) : ∀ (l : List Nat), (l.filter q).length ≤ (l.filter p).length ∧ (y ∈ l → (l.filter q).length < (l.filter p).length)
  | [] => ⟨Nat.le_refl _, fun h => by cases h⟩
  | x :: l => by
    obtain ⟨h1, h2⟩ := filter_less h hp hq l
    rw [List.filter_cons, List.filter_cons]
    cases hx : q x with
    | true =>
      rw [h x hx]
      simp only [if_true, List.length_cons]
      refine ⟨by omega, fun hm => ?_⟩
      rcases List.mem_cons.1 hm with rfl | hm
      · rw [hq] at hx; cases hx
      · have := h2 hm; omega
    | false =>
      simp only [Bool.false_eq_true, if_false]
      cases hpx : p x with
      | true =>
        simp only [if_true, List.length_cons]
        exact ⟨by omega, fun _ => by omega⟩
      | false =>
        simp only [Bool.false_eq_true, if_false]
        refine ⟨h1, fun hm => ?_⟩
        rcases List.mem_cons.1 hm with rfl | hm
        · rw [hp] at hpx; cases hpx
        · exact h2 hm
theorem all_listed (hord : ∀ k o, ops[k]? = some o → ∀ e ∈ o.after, Region.binds md e = true → e.on < k) {listed : Array Bool} (hsz : listed.size = ops.size) (h : Region.ready md ops listed = []) : ∀ x, x < ops.size → listed.getD x true = true := by
  intro x
  induction x using Nat.strongRecOn with
  | ind x ih =>
    intro hx
    cases hl : listed.getD x true with
    | true => rfl
    | false =>
      exfalso
      obtain ⟨o, ho⟩ : ∃ o, ops[x]? = some o := ⟨_, Array.getElem?_eq_getElem hx⟩
      have : x ∈ Region.ready md ops listed := mem_ready.2 ⟨hl, o, ho, fun e he hb => by
        have h1 := hord x o ho e he hb
        have h2 := ih e.on h1 (by omega)
        have h3 : e.on < listed.size := by omega
        simpa [h3] using h2⟩
      rw [h] at this
      cases this
theorem lin_go (hord : ∀ k o, ops[k]? = some o → ∀ e ∈ o.after, Region.binds md e = true → e.on < k) : ∀ (fuel t : Nat) (listed : Array Bool), listed.size = ops.size → Closed md ops listed →
    LinR md ops (Region.linearise.go md ops fuel t listed []) ∧ (∀ x ∈ Region.linearise.go md ops fuel t listed [], x < ops.size ∧ listed.getD x true = false) ∧
      (((List.range ops.size).filter (fun i => !listed.getD i true)).length ≤ fuel → ∀ x, x < ops.size → listed.getD x true = false → x ∈ Region.linearise.go md ops fuel t listed [])
  | 0, t, listed, hsz, hc => by
    have e : Region.linearise.go md ops 0 t listed [] = [] := rfl
    rw [e]
    refine ⟨(trivial : LinR md ops []), (fun x hx => by cases hx), fun hl x hx hn => ?_⟩
    have : x ∈ (List.range ops.size).filter (fun i => !listed.getD i true) := List.mem_filter.2 ⟨List.mem_range.2 hx, by simp [hn]⟩
    rw [List.eq_nil_of_length_eq_zero (by omega : ((List.range ops.size).filter (fun i => !listed.getD i true)).length = 0)] at this
    cases this
  | fuel + 1, t, listed, hsz, hc => by
    simp only [Region.linearise.go]
    change LinR md ops (match (Region.ready md ops listed)[t % (Region.ready md ops listed).length]? with
      | some i => Region.linearise.go md ops fuel (t / (Region.ready md ops listed).length) (listed.setIfInBounds i true) [i]
      | none => [].reverse) ∧ (∀ x ∈ (match (Region.ready md ops listed)[t % (Region.ready md ops listed).length]? with
      | some i => Region.linearise.go md ops fuel (t / (Region.ready md ops listed).length) (listed.setIfInBounds i true) [i]
      | none => [].reverse), x < ops.size ∧ listed.getD x true = false) ∧ (((List.range ops.size).filter (fun i => !listed.getD i true)).length ≤ fuel + 1 → ∀ x, x < ops.size → listed.getD x true = false → x ∈ (match (Region.ready md ops listed)[t % (Region.ready md ops listed).length]? with
      | some i => Region.linearise.go md ops fuel (t / (Region.ready md ops listed).length) (listed.setIfInBounds i true) [i]
      | none => [].reverse))
    cases hi : (Region.ready md ops listed)[t % (Region.ready md ops listed).length]? with
    | none =>
      have hnil : Region.ready md ops listed = [] := by
        cases hr : Region.ready md ops listed with
        | nil => rfl
        | cons x xs =>
          rw [hr] at hi
          have hlt : t % (x :: xs).length < (x :: xs).length := Nat.mod_lt _ (by simp)
          rw [List.getElem?_eq_none_iff] at hi
          omega
      refine ⟨trivial, fun x hx => (by cases hx), fun _ x hx hn => ?_⟩
      rw [all_listed hord hsz hnil x hx] at hn
      cases hn
    | some i =>
      have hir : i ∈ Region.ready md ops listed := List.mem_of_getElem? hi
      obtain ⟨hiu, oi, hio, _⟩ := mem_ready.1 hir
      have his : i < ops.size := (Array.getElem?_eq_some_iff.1 hio).1
      obtain ⟨h1, h2, h3⟩ := lin_go hord fuel (t / (Region.ready md ops listed).length) (listed.setIfInBounds i true) (by simp [hsz]) (hc.set hir)
      simp only []
      rw [linearise_go_acc]
      simp only [List.reverse_cons, List.reverse_nil, List.nil_append, List.singleton_append]
      have un : ∀ x, (listed.setIfInBounds i true).getD x true = false → x ≠ i ∧ listed.getD x true = false := fun x hx => by
        by_cases hxi : i = x
        · subst hxi; simp [hsz, his] at hx
        · rw [getD_set_ne true hxi] at hx; exact ⟨fun h => hxi h.symm, hx⟩
      have hu : ∀ b ∈ i :: Region.linearise.go md ops fuel (t / (Region.ready md ops listed).length) (listed.setIfInBounds i true) [], listed.getD b true = false := fun b hb => by
        rcases List.mem_cons.1 hb with rfl | hb
        · exact hiu
        · exact (un b (h2 b hb).2).2
      refine ⟨⟨fun hm => (un i (h2 i hm).2).1 rfl, fun b hb ⟨n, hn⟩ => ?_, h1⟩, fun x hx => ⟨?_, hu x hx⟩, fun hl x hx hn => ?_⟩
      · have h4 := getD_tf (ready_anc hc hir hn)
        rw [hu b hb] at h4; cases h4
      · rcases List.mem_cons.1 hx with rfl | hx
        · exact his
        · exact (h2 x hx).1
      · by_cases hxi : x = i
        · exact hxi ▸ List.mem_cons_self ..
        · refine List.mem_cons_of_mem _ (h3 ?_ x hx (by rw [getD_set_ne true (Ne.symm hxi)]; exact hn))
          have := (filter_less (p := fun k => !listed.getD k true) (q := fun k => !(listed.setIfInBounds i true).getD k true) (fun y hy => by
            have := (un y (by simpa using hy)).2
            simp [this]) (y := i) (by simp [hiu]) (by simp [hsz, his]) (List.range ops.size)).2 (List.mem_range.2 his)
          omega

/-! ### The conditions, reckoned -/
def ancsFrom (md : Region.Mode) : List Oper → List Nat → List Nat
  | [], acc => acc
  | o :: l, acc => ancsFrom md l (acc ++ [ancOf acc (depsOf md o)])
theorem ancsFrom_ok : ∀ (l : List Oper) (acc : List Nat), (∀ j, l[j]? = ops[acc.length + j]?) → AccOK md ops acc → AccOK md ops (ancsFrom md l acc)
  | [], acc, _, h => h
  | o :: l, acc, hl, h => by
    have ho : ops[acc.length]? = some o := by simpa using (hl 0).symm
    exact ancsFrom_ok l _ (fun j => by have := hl (j + 1); simpa [Nat.add_assoc, Nat.add_comm 1 j] using this) (AccOK.snoc ho h)
theorem anc_of_mask {acc : List Nat} (h : AccOK md ops acc) {j b : Nat} (hb : (acc.getD j 0).testBit b = true) : Anc md ops j b := by
  by_cases hj : j < acc.length
  · exact h j b hj hb
  · rw [List.getD_eq_getElem?_getD, List.getElem?_eq_none (by omega)] at hb
    simp at hb
def goodB (acc : List Nat) (bz : Nat) (deps : List Nat) : List Nat → Bool
  | [] => true
  | i :: s => !s.contains i && (maskL s &&& deps.getD i 0 == 0) && (!bz.testBit i || s.all fun j => bz.testBit j || (maskL (i :: s) &&& bz &&& acc.getD j 0) != 0) && goodB acc bz deps s
def coversB (acc : List Nat) : Nat → List Nat → List (List Nat) → Bool
  | 0, rem, bs => rem.isEmpty && bs.any (·.isEmpty)
  | fuel + 1, rem, bs =>
    if rem.isEmpty then bs.any (·.isEmpty)
    else rem.all fun b => (maskL rem &&& acc.getD b 0) != 0 || coversB acc fuel (rem.filter (· != b)) (bs.filterMap fun β => match β with | x :: t => if x == b then some t else none | [] => none)
theorem nz_bit {m : Nat} (h : (m != 0) = true) : ∃ b, m.testBit b = true := by
  have hm : m ≠ 0 := by simpa using h
  refine Classical.byContradiction fun hn => hm (Nat.eq_of_testBit_eq fun b => ?_)
  rw [Nat.zero_testBit]
  cases hb : m.testBit b with
  | false => rfl
  | true => exact absurd ⟨b, hb⟩ hn

theorem goodB_ok {acc : List Nat} {bz : Nat} {deps : List Nat} (hacc : AccOK md ops acc) (hbz : ∀ i, i < ops.size → (bz.testBit i = true ↔ busyI ops i = true)) (hd : ∀ i k, i < ops.size → Waits md ops i k → (deps.getD i 0).testBit k = true) :
    ∀ (s : List Nat), (∀ x ∈ s, x < ops.size) → goodB acc bz deps s = true → GoodS md ops s
  | [], _, _ => trivial
  | i :: s, hs, h => by
    unfold goodB at h
    simp only [Bool.and_eq_true, Bool.not_eq_true', Bool.or_eq_true, List.all_eq_true, beq_iff_eq] at h
    obtain ⟨⟨⟨h1, h2⟩, h3⟩, h4⟩ := h
    have his := hs i (List.mem_cons_self ..)
    refine ⟨fun hm => ?_, fun j hj hw => ?_, fun hb j hj => ?_, goodB_ok hacc hbz hd s (fun x hx => hs x (List.mem_cons_of_mem _ hx)) h4⟩
    · rw [List.contains_iff_mem.2 hm] at h1; cases h1
    · have e1 := (maskL_bit s j).2 hj
      have e2 := hd i j his hw
      have e3 := congrArg (Nat.testBit · j) h2
      simp only [Nat.testBit_and, e1, e2, Nat.zero_testBit] at e3
      cases e3
    · rcases h3 with h3 | h3
      · rw [(hbz i his).2 hb] at h3; cases h3
      · rcases h3 j hj with h5 | h5
        · exact .inl ((hbz j (hs j (List.mem_cons_of_mem _ hj))).1 h5)
        · obtain ⟨b, hb2⟩ := nz_bit h5
          rw [Nat.testBit_and, Nat.testBit_and, Bool.and_eq_true, Bool.and_eq_true] at hb2
          have hbm := (maskL_bit _ b).1 hb2.1.1
          exact .inr ⟨b, hbm, (hbz b (hs b hbm)).1 hb2.1.2, anc_of_mask hacc hb2.2⟩
theorem coversB_ok {acc : List Nat} (hacc : AccOK md ops acc) : ∀ (fuel : Nat) (rem : List Nat) (bs : List (List Nat)), coversB acc fuel rem bs = true → ∀ L : List Nat, LinR md ops L → (∀ x, x ∈ L ↔ x ∈ rem) → L ∈ bs
  | fuel, rem, bs, h, [], _, hm => by
    obtain rfl : rem = [] := List.eq_nil_iff_forall_not_mem.2 fun x hx => by have := (hm x).2 hx; cases this
    have h' : bs.any (·.isEmpty) = true := by
      cases fuel with
      | zero => unfold coversB at h; simpa using h
      | succ n => unfold coversB at h; simpa using h
    obtain ⟨β, hβ, he⟩ := List.any_eq_true.1 h'
    rw [List.isEmpty_iff] at he
    exact he ▸ hβ
  | 0, rem, bs, h, b :: L, _, hm => by
    unfold coversB at h
    rw [Bool.and_eq_true, List.isEmpty_iff] at h
    have := (hm b).1 (List.mem_cons_self ..)
    rw [h.1] at this; cases this
  | fuel + 1, rem, bs, h, b :: L, hl, hm => by
    have hb := (hm b).1 (List.mem_cons_self ..)
    unfold coversB at h
    rw [if_neg (by rw [List.isEmpty_iff]; rintro rfl; cases hb)] at h
    have h1 := List.all_eq_true.1 h b hb
    rw [Bool.or_eq_true] at h1
    rcases h1 with h1 | h1
    · exfalso
      obtain ⟨c, hc⟩ := nz_bit h1
      rw [Nat.testBit_and, Bool.and_eq_true] at hc
      exact hl.2.1 c ((hm c).2 ((maskL_bit _ c).1 hc.1)) (anc_of_mask hacc hc.2)
    · have h2 := coversB_ok hacc fuel _ _ h1 L hl.2.2 (fun x => by
        rw [List.mem_filter]
        constructor
        · intro hx
          refine ⟨(hm x).1 (List.mem_cons_of_mem _ hx), ?_⟩
          have : x ≠ b := fun e => hl.1 (e ▸ hx)
          simpa using this
        · rintro ⟨hx, hne⟩
          rcases List.mem_cons.1 ((hm x).2 hx) with rfl | hx
          · simp at hne
          · exact hx)
      obtain ⟨β, hβ, he⟩ := List.mem_filterMap.1 h2
      cases β with
      | nil => cases he
      | cons x t =>
        simp only at he
        split at he
        · rename_i hxb
          injection he with he
          subst he
          rw [beq_iff_eq] at hxb
          subst hxb
          exact hβ
        · cases he
def maskB (p : Nat → Bool) (n : Nat) : Nat := maskL ((List.range n).filter p)
theorem maskB_bit (p : Nat → Bool) (n i : Nat) (h : i < n) : (maskB p n).testBit i = true ↔ p i = true := by
  unfold maskB
  rw [maskL_bit, List.mem_filter, List.mem_range]
  exact ⟨fun h => h.2, fun h' => ⟨h, h'⟩⟩
/-- Each waits for earlier ones alone, and touches nothing of those for which it does not wait. -/
def chk2 (md : Region.Mode) (ops : Array Oper) : List Oper → Nat → List (Nat × Nat × Nat) → Bool
  | [], _, _ => true
  | o :: l, k, seen =>
    let d := dstMask o
    let lk := maskL (o.looksAt ops)
    let dp := maskL (depsOf md o)
    decide (dp < 2 ^ k) && (seen.all fun p => dp.testBit p.1 || ((p.2.1 &&& lk == 0) && (p.2.1 &&& d == 0) && (d &&& p.2.2 == 0))) && chk2 md ops l (k + 1) (seen ++ [(k, d, lk)])
theorem chk2_spec : ∀ (l : List Oper) (k : Nat) (seen : List (Nat × Nat × Nat)), (∀ j, l[j]? = ops[k + j]?) → (∀ i oi, i < k → ops[i]? = some oi → (i, dstMask oi, maskL (oi.looksAt ops)) ∈ seen) → chk2 md ops l k seen = true →
    ∀ j oj, k ≤ j → ops[j]? = some oj → (∀ e ∈ oj.after, Region.binds md e = true → e.on < j) ∧ (∀ i oi, i < j → ops[i]? = some oi → (∀ e ∈ oj.after, Region.binds md e = true → e.on ≠ i) → oi.apart ops oj = true)
  | [], k, seen, hl, _, _ => by
    intro j oj hkj hj
    have := hl (j - k)
    rw [show k + (j - k) = j from by omega, hj] at this
    simp at this
  | o :: l, k, seen, hl, hseen, h => by
    have ho : ops[k]? = some o := by simpa using (hl 0).symm
    unfold chk2 at h
    simp only [Bool.and_eq_true, decide_eq_true_eq] at h
    obtain ⟨⟨hd, hs⟩, hrest⟩ := h
    intro j oj hkj hj
    by_cases hjk : j = k
    · subst hjk
      rw [ho] at hj; cases hj
      refine ⟨fun e he hbd => ?_, fun i oi hij hoi hno => ?_⟩
      · have hm := (maskL_bit (depsOf md o) e.on).2 (mem_depsOf.2 ⟨e, he, hbd, rfl⟩)
        rcases Nat.lt_or_ge e.on j with h' | h'
        · exact h'
        · have : maskL (depsOf md o) < 2 ^ e.on := Nat.lt_of_lt_of_le hd (Nat.pow_le_pow_right (by decide) h')
          rw [Nat.testBit_lt_two_pow this] at hm; cases hm
      · have h1 := List.all_eq_true.1 hs _ (hseen i oi hij hoi)
        simp only [Bool.or_eq_true, Bool.and_eq_true, beq_iff_eq] at h1
        rcases h1 with h1 | ⟨⟨h1, h2⟩, h3⟩
        · obtain ⟨e, he, hbd, hei⟩ := mem_depsOf.1 ((maskL_bit _ i).1 h1)
          exact absurd hei (hno e he hbd)
        · exact apart_of_masks h1 h2 h3
    · refine chk2_spec l (k + 1) _ (fun j => by have := hl (j + 1); simpa [Nat.add_assoc, Nat.add_comm 1 j] using this) (fun i oi hi hoi => ?_) hrest j oj (by omega) hj
      by_cases hik : i = k
      · subst hik
        rw [ho] at hoi; cases hoi
        simp
      · exact List.mem_append_left _ (hseen i oi (by omega) hoi)
def readB (ops : Array Oper) (k : Nat) : Bool := ((ops[k]?).map fun o => !busy o && !pureOp o).getD false
def regOB (md : Region.Mode) (ops : Array Oper) (Zl : List Nat) (ss : List (List Nat)) : Bool :=
  let acc := ancsFrom md ops.toList []
  let bz := maskB (busyI ops) ops.size
  let deps := ops.toList.map fun o => maskL (depsOf md o)
  let rd := maskB (readB ops) ops.size
  Region.noSelect ops && chk2 md ops ops.toList 0 [] &&
  (ss.all fun s => goodB acc bz deps s && (s.all fun x => decide (x < ops.size)) && (maskL s == maskL (List.range ops.size))) &&
  coversB acc ops.size ((List.range ops.size).filter (busyI ops)) (ss.map fun s => s.filter (busyI ops)) &&
  (Zl.all fun z => (rd &&& acc.getD z 0) == rd)

/-- The region's law. -/
theorem wp_region_o {id : Nat} {Q : Exit → Act → World → Prop} {a : Act} {w : World} {l : List Oper} (C : World → Prop) (Zl : List Nat) (Zp : List PanicEntry → World → Prop) (ss : List (List Nat))
    (hm : P.follows .mixedOrders = true) (hB : regOB .any l.toArray Zl ss = true) (hC : C w.drew) (hZp : ∀ ch a' w', Zp ch w' → Q (.panic ch) a' w')
    (h : ∀ s ∈ ss, wpD P l.toArray C (Zl.contains ·) Zp (fun a' w' => Q .normal a' w') s a w.drew) : (Code.region id l.toArray true).wp P Q a w := by
  unfold regOB at hB
  simp only [Bool.and_eq_true] at hB
  obtain ⟨⟨⟨⟨hsel, hchk⟩, hgood⟩, hcov⟩, hz⟩ := hB
  have hs := chk2_spec (md := .any) (ops := l.toArray) l.toArray.toList 0 [] (fun j => by simp) (fun i oi hi => by omega) hchk
  have hord : ∀ k o, l.toArray[k]? = some o → ∀ e ∈ o.after, Region.binds .any e = true → e.on < k := fun k o ho => (hs k o (Nat.zero_le _) ho).1
  have hap : ∀ i j oi oj, l.toArray[i]? = some oi → l.toArray[j]? = some oj → i < j → (∀ e ∈ oj.after, Region.binds .any e = true → e.on ≠ i) → oi.apart l.toArray oj = true := fun i j oi oj hi hj hij => (hs j oj (Nat.zero_le _) hj).2 i oi hij hi
  have hacc : AccOK .any l.toArray (ancsFrom .any l.toArray.toList []) := ancsFrom_ok _ [] (fun j => by simp) (fun k b hk => by simp at hk)
  have hc0 : Closed .any l.toArray (Array.replicate l.toArray.size false) := fun k o _ hk => by
    exfalso
    simp [Array.getElem?_replicate] at hk
    split at hk <;> cases hk
  refine wp_region_draw fun t => ?_
  simp only [Region.schedule, hm, Bool.true_or, if_true]
  obtain ⟨g1, g2, g3⟩ := lin_go (md := .any) hord l.toArray.size t (Array.replicate l.toArray.size false) (by simp) hc0
  change wpOps P l.toArray Q (Region.linearise.go .any l.toArray l.toArray.size t (Array.replicate l.toArray.size false) []) a w.drew
  generalize Region.linearise.go .any l.toArray l.toArray.size t (Array.replicate l.toArray.size false) [] = L at *
  have hL : ∀ x, x ∈ L ↔ x < l.toArray.size := fun x => ⟨fun hx => (g2 x hx).1, fun hx => g3 (by
    refine Nat.le_trans (List.length_filter_le _ _) ?_
    simp) x hx (by
    have : x < (Array.replicate l.toArray.size false).size := by simpa using hx
    simp at this ⊢
    simp [this])⟩
  have hmem := coversB_ok (md := .any) (ops := l.toArray) hacc _ _ _ hcov (L.filter (busyI l.toArray)) (LinR.filter _ g1) (fun x => by
    rw [List.mem_filter, List.mem_filter, List.mem_range, hL x])
  obtain ⟨s, hss, hsf⟩ := List.mem_map.1 hmem
  have hg := List.all_eq_true.1 hgood s hss
  simp only [Bool.and_eq_true, List.all_eq_true, decide_eq_true_eq, beq_iff_eq] at hg
  obtain ⟨⟨hg1, hg2⟩, hg3⟩ := hg
  have hsm : ∀ x, x ∈ s ↔ x ∈ L := fun x => by
    rw [hL x, ← maskL_bit s x, hg3, maskL_bit, List.mem_range]
  refine wpOps_of_D (fun _ _ h => h) hZp (fun z hzz k o ho hbk hpk => ?_) L a w.drew (.inl hC) g1 (wpD_sort (Region.noSelect_spec hsel) hap s L a w.drew (goodB_ok (md := .any) hacc (fun i hi => maskB_bit _ _ _ hi) (fun i k hi hw => ?_) s hg2 hg1) g1 hsm hg2 hsf (h s hss))
  · have h1 := List.all_eq_true.1 hz z (List.contains_iff_mem.1 hzz)
    rw [beq_iff_eq] at h1
    have hk : k < l.toArray.size := (Array.getElem?_eq_some_iff.1 ho).1
    have h2 : (maskB (readB l.toArray) l.toArray.size).testBit k = true := (maskB_bit _ _ _ hk).2 (by simp [readB, ho, hbk, hpk])
    rw [← h1, Nat.testBit_and, Bool.and_eq_true] at h2
    exact anc_of_mask hacc h2.2
  · obtain ⟨o, ho, e, he, hb, rfl⟩ := hw
    have : (l.toArray.toList.map fun o => maskL (depsOf .any o)).getD i 0 = maskL (depsOf .any o) := by
      rw [List.getD_eq_getElem?_getD, List.getElem?_map, Array.getElem?_toList, ho]
      rfl
    rw [this, maskL_bit]
    exact mem_depsOf.2 ⟨e, he, hb, rfl⟩

theorem wpD_end {Q : Act → World → Prop} {a : Act} {w : World} (h : Q a w) : wpD P ops C Z Zp Q [] a w := h
theorem wpD_still {Q : Act → World → Prop} {a : Act} {w : World} {i : Nat} {s : List Nat} {o : Oper} {v : Value} (ho : ops[i]? = some o) (hw : Region.wanted o (yielded ops a.tmps) = true) (hb : busy o = false)
    (h : ∀ w, C w → (execOp a.eval o).run P w = .ok (.value v) w) (hp : pureOp o = false) (k : wpD P ops C Z Zp Q s (a.put o.dst v) w) : wpD P ops C Z Zp Q (i :: s) a w := by
  show qOpO P ops C Z Zp i _ a w
  unfold qOpO
  simp only [ho]
  rw [if_pos hw, if_neg (by rw [hb]; decide)]
  refine ⟨v, fun w' hw' => h w' ?_, k⟩
  unfold clsOf at hw'
  rw [hp] at hw'
  exact hw'
theorem wpD_pure {Q : Act → World → Prop} {a : Act} {w : World} {i : Nat} {s : List Nat} {o : Oper} {v : Value} (ho : ops[i]? = some o) (hw : Region.wanted o (yielded ops a.tmps) = true) (hb : busy o = false)
    (h : ∀ w, (execOp a.eval o).run P w = .ok (.value v) w) (k : wpD P ops C Z Zp Q s (a.put o.dst v) w) : wpD P ops C Z Zp Q (i :: s) a w := by
  show qOpO P ops C Z Zp i _ a w
  unfold qOpO
  simp only [ho]
  rw [if_pos hw, if_neg (by rw [hb]; decide)]
  exact ⟨v, fun w' _ => h w', k⟩
theorem wpD_busy {Q : Act → World → Prop} {a : Act} {w : World} {i : Nat} {s : List Nat} {o : Oper} (ho : ops[i]? = some o) (hw : Region.wanted o (yielded ops a.tmps) = true) (hb : busy o = true)
    (h : busyAtO P o a (fun w' => Z i = true ∨ C w') Zp w (fun u w' => wpD P ops C Z Zp Q s (a.put o.dst u) w')) : wpD P ops C Z Zp Q (i :: s) a w := by
  show qOpO P ops C Z Zp i _ a w
  unfold qOpO
  simp only [ho]
  rw [if_pos hw, if_pos hb]
  exact h
theorem wpD_skip {Q : Act → World → Prop} {a : Act} {w : World} {i : Nat} {s : List Nat} {o : Oper} (ho : ops[i]? = some o) (hw : Region.wanted o (yielded ops a.tmps) = false)
    (k : wpD P ops C Z Zp Q s (a.put o.dst undef) w) : wpD P ops C Z Zp Q (i :: s) a w := by
  show qOpO P ops C Z Zp i _ a w
  unfold qOpO
  simp only [ho]
  rw [if_neg (by rw [hw]; decide)]
  exact k
theorem wpD_nil {Q : Act → World → Prop} {a : Act} {w : World} (h : ∀ W, Hd (W = w) → Q a W) : wpD P ops C Z Zp Q [] a w := h w ⟨rfl⟩
/-- A new variable: its block, whatever its number. -/
theorem wpD_alloc {Q : Act → World → Prop} {a : Act} {w : World} {i : Nat} {s : List Nat} {o : Oper} (B0 : World) (z : Array Value) (T : TypeId) (ho : ops[i]? = some o) (hw : Region.wanted o (yielded ops a.tmps) = true) (hb : busy o = true) (hop : o.op = .alloc T)
    (hrun : ∀ w, (execOp a.eval o).run P w = .ok (.value (.pointer (some ⟨w.heap.size, 0, none⟩))) (w.alloc (.cells z T)))
    (hB : Ext B0 w) (hC : ∀ w', Ext w w' → C w') (k : ∀ g W', Hd (W'.heap[g]? = some (.cells z T (0, 0))) → Ext w W' → B0.heap.size ≤ g → wpD P ops C Z Zp Q s (a.put o.dst (.pointer (some ⟨g, 0, none⟩))) W') : wpD P ops C Z Zp Q (i :: s) a w := by
  refine wpD_busy ho hw hb ?_
  unfold busyAtO
  rw [hrun w]
  exact ⟨.inr (hC _ (Ext.alloc (Ext.refl _) _)), k _ _ ⟨heap_alloc_new _ _⟩ (Ext.alloc (Ext.refl _) _) (Ext.size hB)⟩
/-- A store of a row. -/
theorem wpD_store_row {Q : Act → World → Prop} {a : Act} {w : World} {i : Nat} {s : List Nat} {o : Oper} (ty : TypeId) (x y : Operand) (ho : ops[i]? = some o) (hw : Region.wanted o (yielded ops a.tmps) = true) (hop : o.op = .store ty x y) (hd : o.dst = none)
    (g : Nat) (cells : Array Value) (hx : a.eval x = .pointer (some ⟨g, 0, none⟩)) (hy : a.eval y = .agg cells)
    (t : TypeId) (old : Array Value) (hg : w.heap[g]? = some (.cells old t (0, 0))) (hi : (P.info? ty).map (·.size) = some cells.size)
    (hold : old.size = cells.size) (h1 : cells.all (·.oneCell') = true) (hC : Z i = true ∨ C (w.setRow g cells)) (k : wpD P ops C Z Zp Q s a (w.setRow g cells)) : wpD P ops C Z Zp Q (i :: s) a w := by
  refine wpD_busy ho hw (by unfold busy; rw [hop]) (busyAtO_of (busy_store_row ty x y hop g cells hx hy t old hg hi hold h1 hC ?_))
  rw [hd]
  exact k
attribute [go_sem] busyAtO busyUponO
end
/-- The ways through a piece of code meet again: a frame by a number, and what is known of the world. -/
theorem wp_cutF {P : Program} {c : Code} {Q : Exit → Act → World → Prop} {a : Act} {w : World} (F : Nat → Act) (R : Nat → World → Prop)
    (h1 : c.wp P (fun e a' w' => e = .normal ∧ ∃ g, a' = F g ∧ R g w') a w) (h2 : ∀ g w', R g w' → Q .normal (F g) w') : c.wp P Q a w :=
  Code.wp_mono (fun e a' w' h => by obtain ⟨rfl, g, rfl, hr⟩ := h; exact h2 g w' hr) h1
end Go.Proofs.YtimecmleaeimkaaDoor
