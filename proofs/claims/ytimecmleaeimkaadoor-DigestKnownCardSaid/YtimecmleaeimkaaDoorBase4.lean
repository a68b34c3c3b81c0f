/- A region of open order whose LAST operation (a store that waits for all others) may leave the class of worlds in which the others read. -/
import Derived.Test.YtimecmleaeimkaaDoorBase3
namespace Go.Proofs.YtimecmleaeimkaaDoor
open Go.RowKit
set_option linter.unusedVariables false

def waitsOn (md : Region.Mode) (ops : Array Oper) (i : Nat) : List Nat :=
  match ops[i]? with
  | none => []
  | some o => (o.after.toList.filter (Region.binds md ·)).map (·.on)
def markDeps (md : Region.Mode) (ops : Array Oper) (S : List Nat) (i : Nat) : List Nat := if S.contains i then S ++ waitsOn md ops i else S
/-- The last operation waits for each other one, be it through others. -/
def lastWaits (md : Region.Mode) (ops : Array Oper) : Bool :=
  (List.range (ops.size - 1)).all fun k => ((List.range ops.size).reverse.foldl (markDeps md ops) [ops.size - 1]).contains k
/-- What an operation that is done waits for is done. -/
def Closed (md : Region.Mode) (ops : Array Oper) (listed : Array Bool) : Prop :=
  ∀ k o, ops[k]? = some o → listed.getD k false = true → ∀ e ∈ o.after, Region.binds md e = true → listed.getD e.on false = true

section
variable {P : Program} {ops : Array Oper} {md : Region.Mode} {C : World → Prop}

theorem Closed.waits {listed : Array Bool} (hc : Closed md ops listed) {i : Nat} (h : listed.getD i false = true) : ∀ k ∈ waitsOn md ops i, listed.getD k false = true := by
  intro k hk
  unfold waitsOn at hk
  split at hk
  · cases hk
  · rename_i o ho
    obtain ⟨e, he, rfl⟩ := List.mem_map.1 hk
    obtain ⟨he, hb⟩ := List.mem_filter.1 he
    exact hc i o ho h e (by simpa using he) hb
theorem ready_waits {listed : Array Bool} {i : Nat} (h : i ∈ Region.ready md ops listed) : ∀ k ∈ waitsOn md ops i, listed.getD k false = true := by
  obtain ⟨_, o, ho, hall⟩ := mem_ready.1 h
  intro k hk
  unfold waitsOn at hk
  rw [ho] at hk
  obtain ⟨e, he, rfl⟩ := List.mem_map.1 hk
  obtain ⟨he, hb⟩ := List.mem_filter.1 he
  exact hall e (by simpa using he) hb
theorem marks_spec {listed : Array Bool} (hc : Closed md ops listed) {L : Nat} (hr : L ∈ Region.ready md ops listed) : ∀ (l : List Nat) (S : List Nat), (∀ k ∈ S, k = L ∨ listed.getD k false = true) → ∀ k ∈ l.foldl (markDeps md ops) S, k = L ∨ listed.getD k false = true
  | [], S, h => h
  | i :: l, S, h => by
    refine marks_spec hc hr l (markDeps md ops S i) ?_
    intro k hk
    unfold markDeps at hk
    split at hk
    · rename_i hi
      rcases List.mem_append.1 hk with hk | hk
      · exact h k hk
      · right
        rcases h i (by simpa using hi) with rfl | hl
        · exact ready_waits hr k hk
        · exact hc.waits hl k hk
    · exact h k hk
theorem lastWaits_spec (h : lastWaits md ops = true) {listed : Array Bool} (hc : Closed md ops listed) (hr : ops.size - 1 ∈ Region.ready md ops listed) : ∀ k, k < ops.size - 1 → listed.getD k false = true := by
  intro k hk
  have h1 := List.all_eq_true.1 h k (List.mem_range.2 hk)
  have h2 : k ∈ (List.range ops.size).reverse.foldl (markDeps md ops) [ops.size - 1] := List.contains_iff_mem.1 h1
  exact (marks_spec hc hr _ [ops.size - 1] (fun k hk => .inl (by simpa using hk)) k h2).resolve_left (by omega)
theorem Closed.set {listed : Array Bool} (hc : Closed md ops listed) {i : Nat} (hr : i ∈ Region.ready md ops listed) : Closed md ops (listed.setIfInBounds i true) := by
  intro k o ho hk e he hb
  by_cases hki : i = k
  · subst hki
    obtain ⟨_, o', ho', hall⟩ := mem_ready.1 hr
    rw [ho] at ho'; cases ho'
    exact getD_set_true (hall e he hb)
  · rw [getD_set_ne false hki] at hk
    exact getD_set_true (hc k o ho hk e he hb)
theorem getD_tf {listed : Array Bool} {k : Nat} (h : listed.getD k false = true) : listed.getD k true = true := by
  rcases Nat.lt_or_ge k listed.size with h' | h'
  · simpa [h'] using h
  · simp [Array.getElem?_eq_none h'] at h

def qOpL (P : Program) (ops : Array Oper) (C : World → Prop) (i : Nat) (K : Act → World → Prop) (a : Act) (w : World) : Prop :=
  match ops[i]? with
  | none => K a w
  | some o => if Region.wanted o (yielded ops a.tmps) then (if busy o then busyAt P o a (fun w' => i = ops.size - 1 ∨ C w') w (fun u w' => K (a.put o.dst u) w') else ∃ v, stillAt P o a C v ∧ K (a.put o.dst v) w) else K (a.put o.dst undef) w

def wpAnyL' (P : Program) (md : Region.Mode) (ops : Array Oper) (C : World → Prop) (Q : Act → World → Prop) : Nat → Array Bool → Act → World → Prop
  | 0, listed, a, w => Region.ready md ops listed = [] ∧ Q a w
  | fuel + 1, listed, a, w =>
    (Region.ready md ops listed = [] → Q a w) ∧
    ∀ i ∈ Region.ready md ops listed, qOpL P ops C i (wpAnyL' P md ops C Q fuel (listed.setIfInBounds i true)) a w

theorem qOpL_mono {i : Nat} {a : Act} {w : World} (hC : C w) (hi : i ≠ ops.size - 1) {K K' : Act → World → Prop} (h : ∀ a w, C w → K a w → K' a w) (hh : qOpL P ops C i K a w) : qOpL P ops C i K' a w := by
  unfold qOpL at *
  split
  · rename_i ho; simp only [ho] at hh; exact h _ _ hC hh
  · rename_i o ho
    simp only [ho] at hh
    split
    · rename_i hw
      simp only [hw, if_true] at hh
      split
      · rename_i hb
        simp only [hb, if_true] at hh
        exact busyAt_mono hh (fun u w' hc hk => h _ _ (hc.resolve_left hi) hk)
      · rename_i hb
        simp only [hb] at hh
        obtain ⟨v, h1, h2⟩ := hh
        exact ⟨v, h1, h _ _ hC h2⟩
    · rename_i hw
      simp only [hw] at hh
      exact h _ _ hC hh

theorem wpOp_of_qOpL {i : Nat} {a : Act} {K K' : Act → World → Prop} {Q' : Exit → Act → World → Prop} {w : World} (hC : C w)
    (h : ∀ a w', (i = ops.size - 1 ∨ C w') → K a w' → K' a w') (hh : qOpL P ops C i K a w) : wpOp P ops Q' i K' a w := by
  unfold qOpL at hh
  unfold wpOp
  split
  · rename_i ho; simp only [ho] at hh; exact h _ _ (.inr hC) hh
  · rename_i o ho
    simp only [ho] at hh
    split
    · rename_i hw
      simp only [hw, if_true] at hh
      left
      unfold Oper.wp
      split at hh
      · unfold busyAt at hh
        generalize (execOp a.eval o).run P w = r at *
        cases r with
        | halt x w' => exact hh.elim
        | ok n w' =>
          cases n <;> simp only [busyUpon] at hh <;> simp only [Oper.upon]
          case value u => exact h _ _ hh.1 hh.2
          case skip => exact h _ _ hh.1 hh.2
          case enter f args => exact hh.mono fun e w'' ⟨u, he, hc, hk⟩ => by subst he; exact h _ _ hc hk
      · obtain ⟨v, h1, h2⟩ := hh
        rw [h1 w hC]
        exact h _ _ (.inr hC) h2
    · rename_i hw
      simp only [hw] at hh
      exact h _ _ (.inr hC) hh

theorem wpAny_of_L (hl : lastWaits md ops = true) {Q : Act → World → Prop} {Q' : Exit → Act → World → Prop} (hQ : ∀ a w, Q a w → Q' .normal a w) : ∀ (fuel : Nat) (listed : Array Bool) (a : Act) (w : World), (C w ∨ Region.ready md ops listed = []) → listed.size = ops.size → Closed md ops listed →
    wpAnyL' P md ops C Q fuel listed a w → wpAny P md ops Q' fuel listed a w
  | 0, _, _, _, _, _, _, h => ⟨h.1, hQ _ _ h.2⟩
  | fuel + 1, listed, a, w, hw, hsz, hc, h => ⟨fun h0 => hQ _ _ (h.1 h0), fun i hi => by
      have hC : C w := hw.resolve_right (fun h0 => by rw [h0] at hi; cases hi)
      refine wpOp_of_qOpL hC (fun a' w' hw' h' => wpAny_of_L hl hQ fuel _ a' w' ?_ (by simp [hsz]) (hc.set hi) h') (h.2 i hi)
      rcases hw' with hi' | hC'
      · right
        apply List.eq_nil_iff_forall_not_mem.2
        intro j hj
        obtain ⟨hjun, oj, hoj, _⟩ := mem_ready.1 hj
        have hjs : j < ops.size := (Array.getElem?_eq_some_iff.1 hoj).1
        by_cases hji : i = j
        · subst hji; simp [hsz] at hjun
        · rw [getD_set_ne true hji] at hjun
          subst hi'
          have := getD_tf (lastWaits_spec hl hc hi j (by omega))
          rw [this] at hjun; cases hjun
      · exact .inl hC'⟩

theorem StillIn.qOpL {i : Nat} {o : Oper} {v : Value} {a : Act} {w : World} (hi : ops[i]? = some o) (hy : StillIn P ops C o v a) {K : Act → World → Prop} (h : K (a.put o.dst v) w) : qOpL P ops C i K a w := by
  unfold Go.Proofs.YtimecmleaeimkaaDoor.qOpL
  simp only [hi]
  rcases hy with ⟨hw, hb, hv⟩ | ⟨hw, rfl⟩
  · simp only [hw, if_true, hb, Bool.false_eq_true, if_false]; exact ⟨v, hv, h⟩
  · simp only [hw, Bool.false_eq_true, if_false]; exact h
theorem stillIn_of_qOpL {i : Nat} {o : Oper} {a : Act} {w : World} {K : Act → World → Prop} (hi : ops[i]? = some o) (hb : busy o = false) (h : qOpL P ops C i K a w) : ∃ v, StillIn P ops C o v a ∧ K (a.put o.dst v) w := by
  unfold Go.Proofs.YtimecmleaeimkaaDoor.qOpL at h
  simp only [hi] at h
  by_cases hw : Region.wanted o (yielded ops a.tmps) = true
  · simp only [hw, if_true, hb, Bool.false_eq_true, if_false] at h
    obtain ⟨v, h1, h2⟩ := h
    exact ⟨v, .inl ⟨hw, hb, h1⟩, h2⟩
  · simp only [hw] at h
    exact ⟨undef, .inr ⟨by simpa using hw, rfl⟩, h⟩

theorem qOpL_put {j : Nat} {oi oj : Oper} {v : Value} (hj : ops[j]? = some oj) (hap : oi.apart ops oj = true)
    (hsi : ∀ cs b, oi.op ≠ .select cs b) (hsj : ∀ cs b, oj.op ≠ .select cs b) {K : Act → World → Prop} {a : Act} {w : World}
    (hy : StillIn P ops C oi v a) (h : qOpL P ops C j K (a.put oi.dst v) w) :
    qOpL P ops C j (fun a' w' => StillIn P ops C oi v a' ∧ K (a'.put oi.dst v) w') a w := by
  obtain ⟨h1, h2, h3⟩ := Oper.apart_spec hap
  have keep : ∀ (a : Act), StillIn P ops C oi v a → ∀ u, StillIn P ops C oi v (a.put oj.dst u) := fun a hy u =>
    hy.of_same (execOp_put oi hsi a oj.dst u h3) (wanted_put oi a oj.dst u h3)
  unfold qOpL at *
  simp only [hj] at *
  rw [wanted_put oj a oi.dst v h1] at h
  split
  · rename_i hw
    simp only [hw, if_true] at h
    split
    · rename_i hb
      simp only [hb, if_true] at h
      unfold busyAt at *
      rw [execOp_put oj hsj a oi.dst v h1] at h
      refine busyUpon_mono (fun u w' _ hk => ?_) h
      rw [Act.put_comm a v u h2] at hk
      exact ⟨keep a hy u, hk⟩
    · rename_i hb
      simp only [hb] at h
      obtain ⟨u, hu, hn⟩ := h
      refine ⟨u, fun w' hw' => ?_, keep a hy u, by rw [← Act.put_comm a v u h2]; exact hn⟩
      have := hu w' hw'
      rwa [execOp_put oj hsj a oi.dst v h1] at this
  · rename_i hw
    simp only [hw] at h
    exact ⟨keep a hy _, by rw [← Act.put_comm a v undef h2]; exact h⟩

theorem ready_not_last (hl : lastWaits md ops = true) {i j : Nat} {listed : Array Bool} (hc : Closed md ops listed) (hi : i ∈ Region.ready md ops listed) (hj : j ∈ Region.ready md ops listed) (hji : j ≠ i) : j ≠ ops.size - 1 := by
  intro h
  subst h
  obtain ⟨hun, o, ho, _⟩ := mem_ready.1 hi
  have his : i < ops.size := (Array.getElem?_eq_some_iff.1 ho).1
  have := getD_tf (lastWaits_spec hl hc hj i (by omega))
  rw [this] at hun; cases hun

theorem wpAnyL_still (hl : lastWaits md ops = true) {Q : Act → World → Prop} {i : Nat} {oi : Oper} {v : Value} (hi : ops[i]? = some oi) (hsel : ∀ (j : Nat) (o : Oper) cs b, ops[j]? = some o → o.op ≠ .select cs b) :
    ∀ (fuel : Nat) (listed : Array Bool) (a : Act) (w : World), C w → Closed md ops listed →
      (∀ j oj, ops[j]? = some oj → j ≠ i → listed.getD j true = false → (∀ e ∈ oj.after, Region.binds md e = true → e.on ≠ i) → oi.apart ops oj = true) →
      i ∈ Region.ready md ops listed → StillIn P ops C oi v a →
      wpAnyL' P md ops C Q fuel (listed.setIfInBounds i true) (a.put oi.dst v) w → wpAnyL' P md ops C Q (fuel + 1) listed a w := by
  intro fuel
  induction fuel with
  | zero =>
    intro listed a w hC hc _ hr hy H
    refine ⟨fun h => (by rw [h] at hr; cases hr), fun j hj => ?_⟩
    by_cases hji : j = i
    · subst hji; exact hy.qOpL hi H
    · have := ready_mono hj hji
      rw [H.1] at this
      cases this
  | succ fuel ih =>
    intro listed a w hC hc hfree hr hy H
    refine ⟨fun h => (by rw [h] at hr; cases hr), fun j hj => ?_⟩
    by_cases hji : j = i
    · subst hji; exact hy.qOpL hi H
    · have h1 := H.2 j (ready_mono hj hji)
      have hjl := ready_not_last hl hc hr hj hji
      obtain ⟨hjun, oj, hoj, hall⟩ := mem_ready.1 hj
      have hnot : ∀ e ∈ oj.after, Region.binds md e = true → e.on ≠ i := fun e he hb heq => by
        have h1 := hall e he hb
        have h0 := (mem_ready.1 hr).1
        rw [heq] at h1
        rcases Nat.lt_or_ge i listed.size with h' | h'
        · simp [h'] at h0 h1; rw [h0] at h1; cases h1
        · simp [Array.getElem?_eq_none h'] at h1
      have h2 := qOpL_put hoj (hfree j oj hoj hji hjun hnot) (fun cs b => hsel i oi cs b hi) (fun cs b => hsel j oj cs b hoj) hy h1
      have hfree' : ∀ k ok, ops[k]? = some ok → k ≠ i → (listed.setIfInBounds j true).getD k true = false →
          (∀ e ∈ ok.after, Region.binds md e = true → e.on ≠ i) → oi.apart ops ok = true := fun k ok hk hki hun hno => by
        refine hfree k ok hk hki ?_ hno
        by_cases hjk : j = k
        · subst hjk; exact hjun
        · rw [getD_set_ne true hjk] at hun; exact hun
      refine qOpL_mono hC hjl (fun a' w' hC' h3 => ih (listed.setIfInBounds j true) a' w' hC' (hc.set hj) hfree' (ready_mono hr (Ne.symm hji)) h3.1 ?_) h2
      rw [Array.setIfInBounds_comm _ _ hji]
      exact h3.2

theorem wpAnyL_busy (hl : lastWaits md ops = true) {Q : Act → World → Prop} {i : Nat} {oi : Oper} (hi : ops[i]? = some oi) (hbi : busy oi = true) (hsel : ∀ (j : Nat) (o : Oper) cs b, ops[j]? = some o → o.op ≠ .select cs b) :
    ∀ (fuel : Nat) (listed : Array Bool) (a : Act) (w : World), C w → Closed md ops listed →
      (∀ j oj, ops[j]? = some oj → j ≠ i → listed.getD j true = false → (∀ e ∈ oj.after, Region.binds md e = true → e.on ≠ i) → oi.apart ops oj = true) →
      (∀ j oj, ops[j]? = some oj → j ≠ i → busy oj = true → listed.getD j true = false → ∃ e ∈ oj.after, Region.binds md e = true ∧ listed.getD e.on false = false ∧ ((ops[e.on]?).map busy).getD false = true) →
      i ∈ Region.ready md ops listed → Region.wanted oi (yielded ops a.tmps) = true →
      busyAt P oi a (fun w' => i = ops.size - 1 ∨ C w') w (fun u w' => wpAnyL' P md ops C Q fuel (listed.setIfInBounds i true) (a.put oi.dst u) w') → wpAnyL' P md ops C Q (fuel + 1) listed a w := by
  intro fuel
  induction fuel with
  | zero =>
    intro listed a w hC hc _ hch hr hy H
    refine ⟨fun h => (by rw [h] at hr; cases hr), fun j hj => ?_⟩
    by_cases hji : j = i
    · subst hji; unfold qOpL; simp only [hi, hy, hbi, if_true]; exact H
    · obtain ⟨u, w', _, H⟩ := busyUpon_total H
      have := ready_mono hj hji
      rw [H.1] at this
      cases this
  | succ fuel ih =>
    intro listed a w hC hc hfree hch hr hy H
    refine ⟨fun h => (by rw [h] at hr; cases hr), fun j hj => ?_⟩
    by_cases hji : j = i
    · subst hji; unfold qOpL; simp only [hi, hy, hbi, if_true]; exact H
    · have hil := ready_not_last hl hc hj hr (Ne.symm hji)
      obtain ⟨hjun, oj, hoj, hall⟩ := mem_ready.1 hj
      have hbj : busy oj = false := by
        by_cases hb : busy oj = true
        · obtain ⟨e, he, hbd, hun, _⟩ := hch j oj hoj hji hb hjun
          have := hall e he hbd
          rw [hun] at this; cases this
        · simpa using hb
      have hnot : ∀ e ∈ oj.after, Region.binds md e = true → e.on ≠ i := fun e he hb heq => by
        have h1 := hall e he hb
        have h0 := (mem_ready.1 hr).1
        rw [heq] at h1
        rcases Nat.lt_or_ge i listed.size with h' | h'
        · simp [h'] at h0 h1; rw [h0] at h1; cases h1
        · simp [Array.getElem?_eq_none h'] at h1
      obtain ⟨p1, p2, p3⟩ := Oper.apart_spec (hfree j oj hoj hji hjun hnot)
      have hsi : ∀ cs b, oi.op ≠ .select cs b := fun cs b => hsel i oi cs b hi
      have hsj : ∀ cs b, oj.op ≠ .select cs b := fun cs b => hsel j oj cs b hoj
      have down : ∀ u v, StillIn P ops C oj v (a.put oi.dst u) → StillIn P ops C oj v a := fun u v h =>
        h.of_same (execOp_put oj hsj a oi.dst u p1).symm (wanted_put oj a oi.dst u p1).symm
      obtain ⟨v, hv⟩ : ∃ v, StillIn P ops C oj v a := by
        obtain ⟨u, w', _, H'⟩ := busyUpon_total H
        obtain ⟨v, hv, _⟩ := stillIn_of_qOpL hoj hbj (H'.2 j (ready_mono hj hji))
        exact ⟨v, down u v hv⟩
      refine hv.qOpL hoj ?_
      have hfree' : ∀ k ok, ops[k]? = some ok → k ≠ i → (listed.setIfInBounds j true).getD k true = false →
          (∀ e ∈ ok.after, Region.binds md e = true → e.on ≠ i) → oi.apart ops ok = true := fun k ok hk hki hun hno => by
        refine hfree k ok hk hki ?_ hno
        by_cases hjk : j = k
        · subst hjk; exact hjun
        · rw [getD_set_ne true hjk] at hun; exact hun
      have hch' : ∀ k ok, ops[k]? = some ok → k ≠ i → busy ok = true → (listed.setIfInBounds j true).getD k true = false →
          ∃ e ∈ ok.after, Region.binds md e = true ∧ (listed.setIfInBounds j true).getD e.on false = false ∧ ((ops[e.on]?).map busy).getD false = true := fun k ok hk hki hb hun => by
        have hjk : j ≠ k := fun h => by subst h; rw [hoj] at hk; cases hk; rw [hbj] at hb; cases hb
        rw [getD_set_ne true hjk] at hun
        obtain ⟨e, he, hbd, hu, hbe⟩ := hch k ok hk hki hb hun
        refine ⟨e, he, hbd, ?_, hbe⟩
        have hje : j ≠ e.on := fun h => by rw [← h, hoj] at hbe; simp [hbj] at hbe
        rw [getD_set_ne false hje]; exact hu
      refine ih (listed.setIfInBounds j true) (a.put oj.dst v) w hC (hc.set hj) hfree' hch' (ready_mono hr (Ne.symm hji)) (by rw [wanted_put oi a oj.dst v p3]; exact hy) ?_
      unfold busyAt at *
      rw [execOp_put oi hsi a oj.dst v p3]
      refine busyUpon_mono (fun u w' hC' hk => ?_) H
      obtain ⟨v', hv', hk'⟩ := stillIn_of_qOpL hoj hbj (hk.2 j (ready_mono hj hji))
      obtain rfl := StillIn.unique (hC'.resolve_left hil) (down u v' hv') hv
      rw [Array.setIfInBounds_comm _ _ hji, ← Act.put_comm a u v' p2]
      exact hk'

def wpLast (P : Program) (ops : Array Oper) (C : World → Prop) (Q : Act → World → Prop) : List Oper → Act → World → Prop
  | [], a, w => Q a w
  | o :: rest, a, w => if Region.wanted o (yielded ops a.tmps) then (if busy o then busyAt P o a (fun w' => rest = [] ∨ C w') w (fun u w' => wpLast P ops C Q rest (a.put o.dst u) w') else ∃ v, stillAt P o a C v ∧ wpLast P ops C Q rest (a.put o.dst v) w) else wpLast P ops C Q rest (a.put o.dst undef) w

theorem busyAt_class {C' : World → Prop} {o : Oper} {a : Act} {w : World} {K K' : Value → World → Prop} (hh : busyAt P o a C w K) (hc : ∀ w', C w' → C' w') (h : ∀ u w, C w → K u w → K' u w) : busyAt P o a C' w K' := by
  unfold busyAt at *
  generalize (execOp a.eval o).run P w = r at *
  cases r with
  | halt x w' => exact hh
  | ok n w' =>
    cases n <;> simp only [busyUpon] at hh ⊢
    case value u => exact ⟨hc _ hh.1, h _ _ hh.1 hh.2⟩
    case skip => exact ⟨hc _ hh.1, h _ _ hh.1 hh.2⟩
    case enter f args => exact hh.mono fun e w'' ⟨u, he, hc', hk⟩ => ⟨u, he, hc _ hc', h _ _ hc' hk⟩

theorem wpAnyL_lex (hlw : lastWaits md ops = true) {Q : Act → World → Prop} (hs : Region.noSelect ops = true) (hch : busyChain md ops = true) : ∀ (l : List Oper) (k : Nat) (listed : Array Bool) (a : Act) (w : World), (C w ∨ l = []) → Closed md ops listed → (∀ j, l[j]? = ops[k + j]?) →
    listed.size = ops.size → (∀ j, k ≤ j → listed.getD j false = false) → (∀ j, j < k → listed.getD j true = true) →
    Region.lexFrom md ops l.length k listed = true → wpLast P ops C Q l a w → wpAnyL' P md ops C Q l.length listed a w
  | [], _, _, _, _, _, _, _, _, _, _, hB, h => ⟨by simpa [Region.lexFrom] using hB, h⟩
  | o :: l, k, listed, a, w, hC0, hc, hl, hsz, hU, hL, hB, h => by
    have hC : C w := hC0.resolve_right (by simp)
    have h0 : ops[k]? = some o := by simpa using (hl 0).symm
    have hk : k < ops.size := (Array.getElem?_eq_some_iff.1 h0).1
    simp only [List.length_cons, Region.lexFrom, Bool.and_eq_true] at hB
    obtain ⟨⟨hr, hf⟩, hB'⟩ := hB
    have hsel := Region.noSelect_spec hs
    have hend : l = [] → k = ops.size - 1 := fun he => by
      have h1 := hl 1
      subst he
      simp at h1
      omega
    have hend' : k = ops.size - 1 → l = [] := fun he => by
      cases l with
      | nil => rfl
      | cons x l =>
        have h1 := hl 1
        simp at h1
        have := (Array.getElem?_eq_some_iff.1 h1.symm).1
        omega
    have next : ∀ a' w', (C w' ∨ l = []) → wpLast P ops C Q l a' w' → wpAnyL' P md ops C Q l.length (listed.setIfInBounds k true) a' w' := fun a' w' hC' h' =>
      wpAnyL_lex hlw hs hch l (k + 1) _ _ w' hC' (hc.set (by simpa using hr)) (fun j => by have := hl (j + 1); simpa [Nat.add_assoc, Nat.add_comm 1 j] using this) (by simp [hsz])
        (fun j hj => by rw [getD_set_ne false (by omega)]; exact hU j (by omega))
        (fun j hj => by
          by_cases hjk : k = j
          · subst hjk; simp
          · rw [getD_set_ne true hjk]; exact hL j (by omega)) hB' h'
    by_cases hw : Region.wanted o (yielded ops a.tmps) = true
    · by_cases hb : busy o = true
      · unfold wpLast at h
        rw [if_pos hw, if_pos hb] at h
        refine wpAnyL_busy hlw h0 hb hsel l.length listed a w hC hc (Region.free_spec h0 hf) (fun j oj hj hjk hbj hun => ?_) (by simpa using hr) hw
          (busyAt_class h (fun w' hc => hc.imp hend id) (fun u w' hC' hk => next _ _ hC'.symm hk))
        have hkj : k < j := by
          rcases Nat.lt_or_ge j k with h' | h'
          · rw [hL j h'] at hun; cases hun
          · omega
        have hjs : j < ops.size := (Array.getElem?_eq_some_iff.1 hj).1
        have h1 := List.all_eq_true.1 (List.all_eq_true.1 hch j (List.mem_range.2 hjs)) k (List.mem_range.2 hkj)
        simp only [hj, h0, hb, hbj, Bool.not_true, Bool.false_or] at h1
        obtain ⟨e, he, h2⟩ := Array.any_eq_true'.1 h1
        simp only [Bool.and_eq_true, decide_eq_true_eq] at h2
        exact ⟨e, he, h2.1.1, hU _ h2.1.2, h2.2⟩
      · have hb' : busy o = false := by simpa using hb
        have hst : qOpL P ops C k (wpLast P ops C Q l) a w := by
          unfold qOpL; unfold wpLast at h; simp only [h0, hb', Bool.false_eq_true, if_false] at h ⊢; exact h
        obtain ⟨v, hy, hK⟩ := stillIn_of_qOpL h0 hb' hst
        exact wpAnyL_still hlw h0 hsel l.length listed a w hC hc (Region.free_spec h0 hf) (by simpa using hr) hy (next _ _ (.inl hC) hK)
    · unfold wpLast at h
      rw [if_neg hw] at h
      exact wpAnyL_still hlw h0 hsel l.length listed a w hC hc (Region.free_spec h0 hf) (by simpa using hr) (.inr ⟨by simpa using hw, rfl⟩) (next _ _ (.inl hC) h)

/-- The region's law. -/
theorem wp_region_last {id : Nat} {Q : Exit → Act → World → Prop} {a : Act} {w : World} {l : List Oper} (C : World → Prop) (hm : P.follows .mixedOrders = true) (hB : Region.lexB .any l.toArray = true)
    (hch : busyChain .any l.toArray = true) (hlw : lastWaits .any l.toArray = true) (hC : C w.drew) (h : wpLast P l.toArray C (fun a' w' => Q .normal a' w') l a w.drew) : (Code.region id l.toArray true).wp P Q a w := by
  simp only [Region.lexB, Bool.and_eq_true] at hB
  have hc0 : Closed .any l.toArray (Array.replicate l.toArray.size false) := fun k o _ hk => by
    exfalso
    simp [Array.getElem?_replicate] at hk
    split at hk <;> cases hk
  refine wp_region_any hm (wpAny_of_L hlw (Q := fun a' w' => Q .normal a' w') (fun _ _ h => h) _ _ _ _ (.inl hC) (by simp) hc0 ?_)
  have := wpAnyL_lex (C := C) (md := .any) hlw hB.1 hch l 0 (Array.replicate l.toArray.size false) a w.drew (.inl hC) hc0 (by simp) (by simp) (fun j _ => by simp [Array.getElem?_replicate]; split <;> rfl) (fun j hj => by omega) (by simpa using hB.2) h
  simpa using this

theorem wpLast_nil {Q : Act → World → Prop} {a : Act} {w : World} (h : ∀ W, Hd (W = w) → Q a W) : wpLast P ops C Q [] a w := h w ⟨rfl⟩
theorem wpLast_still {Q : Act → World → Prop} {a : Act} {w : World} {o : Oper} {rest : List Oper} {v : Value} (hw : Region.wanted o (yielded ops a.tmps) = true) (hb : busy o = false)
    (h : ∀ w, C w → (execOp a.eval o).run P w = .ok (.value v) w) (k : wpLast P ops C Q rest (a.put o.dst v) w) : wpLast P ops C Q (o :: rest) a w := by
  unfold wpLast
  rw [if_pos hw, if_neg (by rw [hb]; decide)]
  exact ⟨v, h, k⟩
theorem wpLast_busy {Q : Act → World → Prop} {a : Act} {w : World} {o : Oper} {rest : List Oper} (hw : Region.wanted o (yielded ops a.tmps) = true) (hb : busy o = true)
    (h : busyAt P o a C w (fun u w' => wpLast P ops C Q rest (a.put o.dst u) w')) : wpLast P ops C Q (o :: rest) a w := by
  unfold wpLast
  rw [if_pos hw, if_pos hb]
  exact busyAt_class h (fun _ h => .inr h) (fun _ _ _ h => h)
theorem wpLast_last {Q : Act → World → Prop} {a : Act} {w : World} {o : Oper} (hw : Region.wanted o (yielded ops a.tmps) = true) (hb : busy o = true)
    (h : busyAt P o a (fun _ => True) w (fun u w' => wpLast P ops C Q [] (a.put o.dst u) w')) : wpLast P ops C Q [o] a w := by
  unfold wpLast
  rw [if_pos hw, if_pos hb]
  exact busyAt_class h (fun _ _ => .inl rfl) (fun _ _ _ h => h)
theorem wpLast_skip {Q : Act → World → Prop} {a : Act} {w : World} {o : Oper} {rest : List Oper} (hw : Region.wanted o (yielded ops a.tmps) = false)
    (k : wpLast P ops C Q rest (a.put o.dst undef) w) : wpLast P ops C Q (o :: rest) a w := by
  unfold wpLast
  rw [if_neg (by rw [hw]; decide)]
  exact k
end
/-- A store of one value into a row. -/
theorem run_storeVar_cell {P : Program} (w : World) (g j : Nat) (t ty : TypeId) (cur : Array Value) (v : Value) (hg : w.heap[g]? = some (.cells cur t (0, 0))) (hj : j < cur.size) (hi : (P.info? ty).map (·.size) = some 1)
    (hv : v.cells = #[v]) (h1 : v.oneCell' = true) : (storeVar ty ⟨g, j, none⟩ v).run P w = .ok () (w.setRow g (cur.toList.take j ++ [v] ++ cur.toList.drop (j + 1)).toArray) := by
  have hst := run_storeCells_at P g j t [v] 0 cur w hg (by simp; omega) (by simpa using h1)
  cases hq : P.info? ty with
  | none => simp [hq] at hi
  | some i =>
    have hs : i.size = 1 := by simpa [hq] using hi
    simp only [List.length_cons, List.length_nil, Nat.add_zero, Nat.zero_add] at hst
    simp [storeVar, sizeOf, typeInfo, hq, hv, hs]
    simpa using hst
theorem busy_store_cell {P : Program} {o : Oper} {a : Act} {C : World → Prop} {w : World} {K : Value → World → Prop} (ty : TypeId) (x y : Operand) (ho : o.op = .store ty x y)
    (g j : Nat) (v : Value) (hx : a.eval x = .pointer (some ⟨g, j, none⟩)) (hy : a.eval y = v)
    (t : TypeId) (cur : Array Value) (hg : w.heap[g]? = some (.cells cur t (0, 0))) (hj : j < cur.size) (hi : (P.info? ty).map (·.size) = some 1)
    (hv : v.cells = #[v]) (h1 : v.oneCell' = true) (hC : C (w.setRow g (cur.toList.take j ++ [v] ++ cur.toList.drop (j + 1)).toArray)) (h : K undef (w.setRow g (cur.toList.take j ++ [v] ++ cur.toList.drop (j + 1)).toArray)) : busyAt P o a C w K := by
  unfold busyAt execOp
  simp only [ho, hx, hy, Instr.storeAt, Instr.sureAddr, Sem.run_bind, Sem.run_pure, Result.andThen_ok, run_storeVar_cell w g j t ty cur v hg hj hi hv h1]
  exact ⟨hC, h⟩
end Go.Proofs.YtimecmleaeimkaaDoor
