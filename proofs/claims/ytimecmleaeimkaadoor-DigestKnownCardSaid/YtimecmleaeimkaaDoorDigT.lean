/- MD5's step over a block: take. -/
import Derived.Test.YtimecmleaeimkaaDoorDigP
import Derived.Test.YtimecmleaeimkaaDoorBase4
namespace Go.Proofs.YtimecmleaeimkaaDoor
open Go.RowKit
set_option linter.unusedVariables false
theorem byteAt_cut (s : ByteArray) (a b k : Nat) (hk : a + k < b) (hb : b ≤ s.size) : byteAt (s.extract a b) k = byteAt s (a + k) := by
  have h1 : k < (s.extract a b).size := by rw [ByteArray.size_extract]; omega
  have h2 : a + k < s.size := by omega
  unfold byteAt
  rw [dif_pos h1, dif_pos h2]
  congr 2
  exact ByteArray.getElem_extract ..
theorem rd_cut (s : ByteArray) (a b k : Nat) (hk : a + k + 3 < b) (hb : b ≤ s.size) : rd (s.extract a b) k = rd s (a + k) := by
  unfold rd
  rw [byteAt_cut s a b k (by omega) hb, byteAt_cut s a b (k + 1) (by omega) hb, byteAt_cut s a b (k + 2) (by omega) hb, byteAt_cut s a b (k + 3) (by omega) hb]
  rfl
/-- A part of sixteen octets of a block of 64. -/
theorem readP_c (s : ByteArray) (h : s.size = 64) (i : Nat) (hi : i < 4) (w : World) : Calls Tryd.prog 51 #[.string (s.extract (16 * i) 64)] w (Ret w (q32 (wd s 0 (4 * i)) (wd s 0 (4 * i + 1)) (wd s 0 (4 * i + 2)) (wd s 0 (4 * i + 3)))) := by
  have hz : (s.extract (16 * i) 64).size = 64 - 16 * i := by rw [ByteArray.size_extract]; omega
  have r : ∀ j, j < 4 → rd (s.extract (16 * i) 64) (4 * j) = wd s 0 (4 * i + j) := fun j hj => by
    rw [rd_cut s _ _ _ (by omega) (by omega)]; unfold wd; congr 1; omega
  have := read_c (s.extract (16 * i) 64) (by omega) w
  rw [show (0 : Nat) = 4 * 0 from rfl, r 0 (by omega), show (4 : Nat) = 4 * 1 from rfl, r 1 (by omega), show (8 : Nat) = 4 * 2 from rfl, r 2 (by omega), show (12 : Nat) = 4 * 3 from rfl, r 3 (by omega)] at this
  exact this
def q32L (x : Q4) : Array Value := #[.int .u32 x.a, .int .u32 x.b, .int .u32 x.c, .int .u32 x.d]
def RoundsP (w : World) (e : Ending) (w' : World) : Prop :=
  ∃ R gc g0 h0 g1 h1 g2 h2 g3 h3, e = .returned (.agg R) ∧
    (∀ w, (Instr.index 129 (.agg R) (.int .i64 0)).run Tryd.prog w = .ok (.agg #[fnv 111, clo2 113 g0 h0, .int .i64 7, .int .i64 12, .int .i64 17, .int .i64 22]) w) ∧
    (∀ w, (Instr.index 129 (.agg R) (.int .i64 1)).run Tryd.prog w = .ok (.agg #[clo1 114 gc, clo2 113 g1 h1, .int .i64 5, .int .i64 9, .int .i64 14, .int .i64 20]) w) ∧
    (∀ w, (Instr.index 129 (.agg R) (.int .i64 2)).run Tryd.prog w = .ok (.agg #[fnv 115, clo2 113 g2 h2, .int .i64 4, .int .i64 11, .int .i64 16, .int .i64 23]) w) ∧
    (∀ w, (Instr.index 129 (.agg R) (.int .i64 3)).run Tryd.prog w = .ok (.agg #[fnv 116, clo2 113 g3 h3, .int .i64 6, .int .i64 10, .int .i64 15, .int .i64 21]) w) ∧
    w'.cell? ⟨gc, 0, none⟩ = some (fnv 111) ∧
    w'.cell? ⟨g0, 0, none⟩ = some (.int .i64 1) ∧ w'.cell? ⟨h0, 0, none⟩ = some (.int .i64 0) ∧
    w'.cell? ⟨g1, 0, none⟩ = some (.int .i64 5) ∧ w'.cell? ⟨h1, 0, none⟩ = some (.int .i64 1) ∧
    w'.cell? ⟨g2, 0, none⟩ = some (.int .i64 3) ∧ w'.cell? ⟨h2, 0, none⟩ = some (.int .i64 5) ∧
    w'.cell? ⟨g3, 0, none⟩ = some (.int .i64 7) ∧ w'.cell? ⟨h3, 0, none⟩ = some (.int .i64 0) ∧ Ext w w'
theorem roundsP_c (w : World) : Calls Tryd.prog 88 #[] w (RoundsP w) :=
  (rounds_c w).mono fun e w' ⟨gc, g0, h0, g1, h1, g2, h2, g3, h3, he, hr⟩ =>
    ⟨_, gc, g0, h0, g1, h1, g2, h2, g3, h3, he, fun _ => by kernel_rfl, fun _ => by kernel_rfl, fun _ => by kernel_rfl, fun _ => by kernel_rfl, hr⟩
theorem kcells_at (i : Nat) (h : i < 64) : (kcells .u32)[i]? = some (.int .u32 (K i)) := by
  have hl : ktab.length = 64 := by decide +kernel
  unfold kcells K
  rw [List.getElem?_toArray, List.getElem?_map, List.getD_eq_getElem?_getD, List.getElem?_eq_getElem (by omega)]
  rfl
def xrow (X : Nat → Int) : Array Value := #[.int .u32 (X 0), .int .u32 (X 1), .int .u32 (X 2), .int .u32 (X 3), .int .u32 (X 4), .int .u32 (X 5), .int .u32 (X 6), .int .u32 (X 7), .int .u32 (X 8), .int .u32 (X 9), .int .u32 (X 10), .int .u32 (X 11), .int .u32 (X 12), .int .u32 (X 13), .int .u32 (X 14), .int .u32 (X 15)]
theorem xrow_at (X : Nat → Int) (i : Nat) (h : i < 16) : (xrow X)[i]? = some (.int .u32 (X i)) := by
  match i, h with
  | 0, _ => rfl
  | 1, _ => rfl
  | 2, _ => rfl
  | 3, _ => rfl
  | 4, _ => rfl
  | 5, _ => rfl
  | 6, _ => rfl
  | 7, _ => rfl
  | 8, _ => rfl
  | 9, _ => rfl
  | 10, _ => rfl
  | 11, _ => rfl
  | 12, _ => rfl
  | 13, _ => rfl
  | 14, _ => rfl
  | 15, _ => rfl
  | n + 16, h => omega
theorem of0_c (n : Nat) (h : n < 16) (b c d : Int) (hb : U b) (hc : U c) (hd : U d) (w : World) : Calls Tryd.prog 111 #[.int .u32 b, .int .u32 c, .int .u32 d] w (Ret w (.int .u32 (Fi n b c d))) := by
  have e : Fi n b c d = F0 b c d := by unfold Fi; rw [if_pos (by omega)]
  rw [e]; exact f0_c b c d hb hc hd w
theorem of1_c (n : Nat) (h1 : 16 ≤ n) (h : n < 32) (b c d : Int) (hb : U b) (hc : U c) (hd : U d) (g : Nat) (w : World) (hg : w.cell? ⟨g, 0, none⟩ = some (fnv 111)) : Calls Tryd.prog 114 #[.int .u32 b, .int .u32 c, .int .u32 d, .pointer (some ⟨g, 0, none⟩)] w (Ret w (.int .u32 (Fi n b c d))) := by
  have e : Fi n b c d = F1 b c d := by unfold Fi; rw [if_neg (by omega), if_pos (by omega)]
  rw [e]; exact f1_c b c d hb hc hd g w hg
theorem of2_c (n : Nat) (h1 : 32 ≤ n) (h : n < 48) (b c d : Int) (hb : U b) (hc : U c) (hd : U d) (w : World) : Calls Tryd.prog 115 #[.int .u32 b, .int .u32 c, .int .u32 d] w (Ret w (.int .u32 (Fi n b c d))) := by
  have e : Fi n b c d = F2 b c d := by unfold Fi; rw [if_neg (by omega), if_neg (by omega), if_pos (by omega)]
  rw [e]; exact f2_c b c d hb hc hd w
theorem of3_c (n : Nat) (h1 : 48 ≤ n) (b c d : Int) (hb : U b) (hc : U c) (hd : U d) (w : World) : Calls Tryd.prog 116 #[.int .u32 b, .int .u32 c, .int .u32 d] w (Ret w (.int .u32 (Fi n b c d))) := by
  have e : Fi n b c d = F3 b c d := by unfold Fi; rw [if_neg (by omega), if_neg (by omega), if_neg (by omega)]
  rw [e]; exact f3_c b c d hb hc hd w
theorem wdq_c (n : Nat) (h : n < 64) (f nn : Int) (hf : (n < 16 ∧ f = 1 ∧ nn = 0) ∨ (16 ≤ n ∧ n < 32 ∧ f = 5 ∧ nn = 1) ∨ (32 ≤ n ∧ n < 48 ∧ f = 3 ∧ nn = 5) ∨ (48 ≤ n ∧ f = 7 ∧ nn = 0)) (g h' : Nat) (w : World) (hg : w.cell? ⟨g, 0, none⟩ = some (.int .i64 f)) (hh : w.cell? ⟨h', 0, none⟩ = some (.int .i64 nn)) :
    Calls Tryd.prog 113 #[.int .i64 n, .pointer (some ⟨g, 0, none⟩), .pointer (some ⟨h', 0, none⟩)] w (Ret w (.int .i64 (wi n))) := by
  have := word_c n f nn (by omega) (by omega) (by omega) g h' w hg hh
  have e : (f * (n : Int) + nn) % 16 = (wi n : Nat) := by
    unfold wi
    rcases hf with ⟨h1, rfl, rfl⟩ | ⟨h1, h2, rfl, rfl⟩ | ⟨h1, h2, rfl, rfl⟩ | ⟨h1, rfl, rfl⟩
    · rw [if_pos h1]; omega
    · rw [if_neg (by omega), if_pos (by omega)]; omega
    · rw [if_neg (by omega), if_neg (by omega), if_pos (by omega)]; omega
    · rw [if_neg (by omega), if_neg (by omega), if_neg (by omega)]; omega
  rwa [e] at this
def TkC (wr : World) (B7 BW BK BT : Nat) (y : Q4) (n m r : Nat) (kn xm bn : Int) (of word : Value) (w' : World) : Prop :=
  Ext wr w' ∧ w'.cell? ⟨B7, 0, none⟩ = some (.int .u32 y.a) ∧ w'.cell? ⟨B7, 1, none⟩ = some (.int .u32 y.b) ∧ w'.cell? ⟨B7, 2, none⟩ = some (.int .u32 y.c) ∧ w'.cell? ⟨B7, 3, none⟩ = some (.int .u32 y.d) ∧
    w'.cell? ⟨BK, n, none⟩ = some (.int .u32 kn) ∧ w'.cell? ⟨BW, m, none⟩ = some (.int .u32 xm) ∧ w'.cell? ⟨BT, 0, none⟩ = some of ∧ w'.cell? ⟨BT, 1, none⟩ = some word ∧ w'.cell? ⟨BT, 2 + r, none⟩ = some (.int .i64 bn)
theorem TkC.of {wr : World} {B7 BW BK BT : Nat} {y : Q4} {n m r : Nat} {kn xm bn : Int} {of word : Value} (h7 : ∃ t, wr.heap[B7]? = some (.cells (q32L y) t (0, 0)))
    (hK : wr.cell? ⟨BK, n, none⟩ = some (.int .u32 kn)) (hX : wr.cell? ⟨BW, m, none⟩ = some (.int .u32 xm)) (h0 : wr.cell? ⟨BT, 0, none⟩ = some of) (h1 : wr.cell? ⟨BT, 1, none⟩ = some word) (h2 : wr.cell? ⟨BT, 2 + r, none⟩ = some (.int .i64 bn)) :
    ∀ w', Ext wr w' → TkC wr B7 BW BK BT y n m r kn xm bn of word w' := fun w' h =>
  let ⟨t, h7⟩ := h7
  ⟨h, Ext.cell h (row_cell h7 rfl), Ext.cell h (row_cell h7 rfl), Ext.cell h (row_cell h7 rfl), Ext.cell h (row_cell h7 rfl), Ext.cell h hK, Ext.cell h hX, Ext.cell h h0, Ext.cell h h1, Ext.cell h h2⟩
theorem stp_of (X : Nat → Int) (n m : Nat) (y : Q4) (F kn xm bn s1 s2 s3 r b' : Int) (eF : Fi n y.b y.c y.d = F) (ek : K n = kn) (em : wi n = m) (ex : X m = xm) (eb : byT n = bn)
    (e1 : IntKind.u32.wrap (y.a + F) = s1) (e2 : IntKind.u32.wrap (s1 + kn) = s2) (e3 : IntKind.u32.wrap (s2 + xm) = s3) (er : rotl s3 bn = r) (e4 : IntKind.u32.wrap (y.b + r) = b') :
    stp X n y = ⟨y.d, b', y.b, y.c⟩ := by
  unfold stp
  rw [IntKind.wrap_u32] at e1 e2 e3 e4
  have e5 : (y.a + F + kn + xm) % 4294967296 = s3 := by omega
  rw [eF, ek, em, ex, eb, e5, er, e4]
theorem by_at0 (n r : Nat) (hn : n < 16) (hr : n % 4 = r) {a b : Value} : (#[a, b, .int .i64 7, .int .i64 12, .int .i64 17, .int .i64 22] : Array Value)[2 + r]? = some (.int .i64 (byT n)) := by
  have h : ∀ n : Fin 16, byT n.1 = [7, 12, 17, 22].getD (n.1 % 4) 0 := by decide +kernel
  rw [h ⟨n, hn⟩]; subst hr
  have : n % 4 < 4 := by omega
  match n % 4, this with
  | 0, _ => rfl
  | 1, _ => rfl
  | 2, _ => rfl
  | 3, _ => rfl
  | k + 4, h => omega
theorem by_at1 (n r : Nat) (hn : n - 16 < 16) (hr : 16 ≤ n ∧ n % 4 = r) {a b : Value} : (#[a, b, .int .i64 5, .int .i64 9, .int .i64 14, .int .i64 20] : Array Value)[2 + r]? = some (.int .i64 (byT n)) := by
  have h : ∀ n : Fin 16, byT (16 + n.1) = [5, 9, 14, 20].getD (n.1 % 4) 0 := by decide +kernel
  have h1 := h ⟨n - 16, hn⟩
  obtain ⟨j, rfl⟩ : ∃ j, n = 16 + j := ⟨n - 16, by omega⟩
  simp only [Nat.add_sub_cancel_left] at h1
  rw [h1]
  obtain rfl : r = j % 4 := by omega
  have : j % 4 < 4 := by omega
  match j % 4, this with
  | 0, _ => rfl
  | 1, _ => rfl
  | 2, _ => rfl
  | 3, _ => rfl
  | k + 4, h => omega
theorem by_at2 (n r : Nat) (hn : n - 32 < 16) (hr : 32 ≤ n ∧ n % 4 = r) {a b : Value} : (#[a, b, .int .i64 4, .int .i64 11, .int .i64 16, .int .i64 23] : Array Value)[2 + r]? = some (.int .i64 (byT n)) := by
  have h : ∀ n : Fin 16, byT (32 + n.1) = [4, 11, 16, 23].getD (n.1 % 4) 0 := by decide +kernel
  have h1 := h ⟨n - 32, hn⟩
  obtain ⟨j, rfl⟩ : ∃ j, n = 32 + j := ⟨n - 32, by omega⟩
  simp only [Nat.add_sub_cancel_left] at h1
  rw [h1]
  obtain rfl : r = j % 4 := by omega
  have : j % 4 < 4 := by omega
  match j % 4, this with
  | 0, _ => rfl
  | 1, _ => rfl
  | 2, _ => rfl
  | 3, _ => rfl
  | k + 4, h => omega
theorem by_at3 (n r : Nat) (hn : n - 48 < 16) (hr : 48 ≤ n ∧ n % 4 = r) {a b : Value} : (#[a, b, .int .i64 6, .int .i64 10, .int .i64 15, .int .i64 21] : Array Value)[2 + r]? = some (.int .i64 (byT n)) := by
  have h : ∀ n : Fin 16, byT (48 + n.1) = [6, 10, 15, 21].getD (n.1 % 4) 0 := by decide +kernel
  have h1 := h ⟨n - 48, hn⟩
  obtain ⟨j, rfl⟩ : ∃ j, n = 48 + j := ⟨n - 48, by omega⟩
  simp only [Nat.add_sub_cancel_left] at h1
  rw [h1]
  obtain rfl : r = j % 4 := by omega
  have : j % 4 < 4 := by omega
  match j % 4, this with
  | 0, _ => rfl
  | 1, _ => rfl
  | 2, _ => rfl
  | 3, _ => rfl
  | k + 4, h => omega
theorem ne7 {w : World} {b g : Nat} {y : Q4} {t : TypeId} {n : Int} (h : w.heap[b]? = some (.cells (q32L y) t (0, 0))) (hc : w.cell? ⟨g, 0, none⟩ = some (.int .i64 n)) : ¬ g = b := by
  rintro rfl
  rw [row_cell h (j := 0) (v := .int .u32 y.a) rfl] at hc
  cases hc
theorem ne7f {w : World} {b g f : Nat} {y : Q4} {t : TypeId} (h : w.heap[b]? = some (.cells (q32L y) t (0, 0))) (hc : w.cell? ⟨g, 0, none⟩ = some (fnv f)) : ¬ g = b := by
  rintro rfl
  rw [row_cell h (j := 0) (v := .int .u32 y.a) rfl] at hc
  cases hc
theorem four_cells {w : World} {b : Nat} {x0 x1 x2 x3 : Value} (h0 : w.cell? ⟨b, 0, none⟩ = some x0) (h1 : w.cell? ⟨b, 1, none⟩ = some x1) (h2 : w.cell? ⟨b, 2, none⟩ = some x2) (h3 : w.cell? ⟨b, 3, none⟩ = some x3) :
    ∀ j v, [x0, x1, x2, x3][j]? = some v → w.cell? ((Addr.mk b 0 none).add j) = some v := by
  intro j v h
  match j, h with
  | 0, h => cases h; exact h0
  | 1, h => cases h; exact h1
  | 2, h => cases h; exact h2
  | 3, h => cases h; exact h3
  | n + 4, h => simp at h
def TakeRet (w : World) (g : Nat) (t : TypeId) (x' : Q4) (e : Ending) (w' : World) : Prop := (∃ v, e = .returned v) ∧ w'.heap[g]? = some (.cells (q32L x') t (0, 0)) ∧ Exts (· = g) w w'
attribute [local go_sem] q32 q64 clo2 clo1 fnv
set_option maxHeartbeats 4000000 in
set_option maxRecDepth 100000 in
theorem take_c (x : Q4) (hx : x.U) (s : ByteArray) (hs : s.size = 64) (g : Nat) (t : TypeId) (w : World) (hg : w.heap[g]? = some (.cells (q32L x) t (0, 0))) :
    Calls Tryd.prog 53 #[.pointer (some ⟨g, 0, none⟩), .string s] w (TakeRet w g t (blk (wd s 0) x)) := by
  have hgl := row_lt hg
  have hgx := Hd.mk hg
  clear hg
  have hR0 := Hd.mk (fun w => readP_c s hs 0 (by omega) w)
  have hR1 := Hd.mk (fun w => readP_c s hs 1 (by omega) w)
  have hR2 := Hd.mk (fun w => readP_c s hs 2 (by omega) w)
  have hR3 := Hd.mk (fun w => readP_c s hs 3 (by omega) w)
  generalize wd s 0 = X at *
  go_enter Tryd.func53, Tryd.ntmps53
  go_wp2
  refine wp_loop_rounds 5 ?_
  rw [rounds_succ]
  go_wp2_with (go_at_call 51; refine (hR0.out _).mono ?_; rintro e w1 ⟨rfl, hb⟩)
  refine wp_name fun V0 hV0 => ?_
  have hE0 : Ext w V0 := by rw [hV0.out]; exact (by repeat (first | exact Ext.refl _ | assumption | apply Ext.alloc | apply Ext.drew | apply Ext.drewN | apply Ext.bytes | apply Ext.iter | refine Ext.setCell ?_ (by simp; omega) _ | refine Ext.trans ?_ (by assumption)))
  have hr0 : V0.heap[w.heap.size]? = some (.cells #[.int .u32 0, .int .u32 0, .int .u32 0, .int .u32 0, .int .u32 0, .int .u32 0, .int .u32 0, .int .u32 0, .int .u32 0, .int .u32 0, .int .u32 0, .int .u32 0, .int .u32 0, .int .u32 0, .int .u32 0, .int .u32 0] 122 (0, 0)) := by rw [hV0.out]; exact Ext.blk (Ext.alloc hb _) (heap_alloc_new _ _)
  have hp0 : V0.heap[w1.heap.size]? = some (.cells #[.int .u32 (X 0), .int .u32 (X 1), .int .u32 (X 2), .int .u32 (X 3)] 85 (0, 0)) := by rw [hV0.out]; exact heap_alloc_new _ _
  clear hV0
  refine wp_region_seq (fun w' => Ext w w') (by kernel_rfl) (by kernel_rfl) (by kernel_rfl) (by exact (by repeat (first | exact Ext.refl _ | assumption | apply Ext.alloc | apply Ext.drew | apply Ext.drewN | apply Ext.bytes | apply Ext.iter | refine Ext.setCell ?_ (by simp; omega) _ | refine Ext.trans ?_ (by assumption)))) ?_
  repeat (first
    | (refine wpSeq_skip rfl ?_; (try simp only [Act.put, List.setIfInBounds_toArray, List.set_cons_zero, List.set_cons_succ]))
    | (apply wpSeq_still; exact rfl; exact rfl; (intro w' hw'; go_simp; first | done | exact rfl); (try simp only [Act.put, List.setIfInBounds_toArray, List.set_cons_zero, List.set_cons_succ])))
  refine wpSeq_busy rfl rfl (busy_copy_row (.tmp 25) (.tmp 26) 123 123 rfl 83 Tryd.underlying123 (by kernel_rfl) w.heap.size 0 16 16 ⟨w1.heap.size, 0, none⟩ 4 4 rfl rfl _ _ (show V0.drew.heap[w.heap.size]? = _ from hr0) [.int .u32 (X 0), .int .u32 (X 1), .int .u32 (X 2), .int .u32 (X 3)] rfl (four_cells (row_cell (show V0.drew.heap[w1.heap.size]? = _ from hp0) rfl) (row_cell (show V0.drew.heap[w1.heap.size]? = _ from hp0) rfl) (row_cell (show V0.drew.heap[w1.heap.size]? = _ from hp0) rfl) (row_cell (show V0.drew.heap[w1.heap.size]? = _ from hp0) rfl)) (by simp) (by simp [Value.oneCell']) (Ext.setRow (by exact (by repeat (first | exact Ext.refl _ | assumption | apply Ext.alloc | apply Ext.drew | apply Ext.drewN | apply Ext.bytes | apply Ext.iter | refine Ext.setCell ?_ (by simp; omega) _ | refine Ext.trans ?_ (by assumption)))) (Nat.le_refl _) _) ?_)
  refine wpSeq_fin fun W0 hW0 hq0 => ?_
  have hw0 := Hd.mk (show W0.heap[w.heap.size]? = some (.cells #[.int .u32 (X 0), .int .u32 (X 1), .int .u32 (X 2), .int .u32 (X 3), .int .u32 0, .int .u32 0, .int .u32 0, .int .u32 0, .int .u32 0, .int .u32 0, .int .u32 0, .int .u32 0, .int .u32 0, .int .u32 0, .int .u32 0, .int .u32 0] 122 (0, 0)) by rw [hW0.out]; exact setRow_heap _ _ _ _ _ _ (show V0.drew.heap[w.heap.size]? = _ from hr0))
  clear hW0 hE0 hr0 hp0 hb
  go_wp2_with fail
  rw [rounds_succ]
  go_wp2_with (go_at_call 51; refine (hR1.out _).mono ?_; rintro e w1 ⟨rfl, hb⟩)
  refine wp_name fun V1 hV1 => ?_
  have hE1 : Ext w V1 := by rw [hV1.out]; exact (by repeat (first | exact Ext.refl _ | assumption | apply Ext.alloc | apply Ext.drew | apply Ext.drewN | apply Ext.bytes | apply Ext.iter | refine Ext.setCell ?_ (by simp; omega) _ | refine Ext.trans ?_ (by assumption)))
  have hr1 : V1.heap[w.heap.size]? = some (.cells #[.int .u32 (X 0), .int .u32 (X 1), .int .u32 (X 2), .int .u32 (X 3), .int .u32 0, .int .u32 0, .int .u32 0, .int .u32 0, .int .u32 0, .int .u32 0, .int .u32 0, .int .u32 0, .int .u32 0, .int .u32 0, .int .u32 0, .int .u32 0] 122 (0, 0)) := by rw [hV1.out]; exact Ext.blk (Ext.alloc hb _) (hw0.out)
  have hp1 : V1.heap[w1.heap.size]? = some (.cells #[.int .u32 (X 4), .int .u32 (X 5), .int .u32 (X 6), .int .u32 (X 7)] 85 (0, 0)) := by rw [hV1.out]; exact heap_alloc_new _ _
  clear hV1
  refine wp_region_seq (fun w' => Ext w w') (by kernel_rfl) (by kernel_rfl) (by kernel_rfl) (by exact (by repeat (first | exact Ext.refl _ | assumption | apply Ext.alloc | apply Ext.drew | apply Ext.drewN | apply Ext.bytes | apply Ext.iter | refine Ext.setCell ?_ (by simp; omega) _ | refine Ext.trans ?_ (by assumption)))) ?_
  repeat (first
    | (refine wpSeq_skip rfl ?_; (try simp only [Act.put, List.setIfInBounds_toArray, List.set_cons_zero, List.set_cons_succ]))
    | (apply wpSeq_still; exact rfl; exact rfl; (intro w' hw'; go_simp; first | done | exact rfl); (try simp only [Act.put, List.setIfInBounds_toArray, List.set_cons_zero, List.set_cons_succ])))
  refine wpSeq_busy rfl rfl (busy_copy_row (.tmp 25) (.tmp 26) 123 123 rfl 83 Tryd.underlying123 (by kernel_rfl) w.heap.size 4 12 12 ⟨w1.heap.size, 0, none⟩ 4 4 rfl rfl _ _ (show V1.drew.heap[w.heap.size]? = _ from hr1) [.int .u32 (X 4), .int .u32 (X 5), .int .u32 (X 6), .int .u32 (X 7)] rfl (four_cells (row_cell (show V1.drew.heap[w1.heap.size]? = _ from hp1) rfl) (row_cell (show V1.drew.heap[w1.heap.size]? = _ from hp1) rfl) (row_cell (show V1.drew.heap[w1.heap.size]? = _ from hp1) rfl) (row_cell (show V1.drew.heap[w1.heap.size]? = _ from hp1) rfl)) (by simp) (by simp [Value.oneCell']) (Ext.setRow (by exact (by repeat (first | exact Ext.refl _ | assumption | apply Ext.alloc | apply Ext.drew | apply Ext.drewN | apply Ext.bytes | apply Ext.iter | refine Ext.setCell ?_ (by simp; omega) _ | refine Ext.trans ?_ (by assumption)))) (Nat.le_refl _) _) ?_)
  refine wpSeq_fin fun W1 hW1 hq1 => ?_
  have hw1 := Hd.mk (show W1.heap[w.heap.size]? = some (.cells #[.int .u32 (X 0), .int .u32 (X 1), .int .u32 (X 2), .int .u32 (X 3), .int .u32 (X 4), .int .u32 (X 5), .int .u32 (X 6), .int .u32 (X 7), .int .u32 0, .int .u32 0, .int .u32 0, .int .u32 0, .int .u32 0, .int .u32 0, .int .u32 0, .int .u32 0] 122 (0, 0)) by rw [hW1.out]; exact setRow_heap _ _ _ _ _ _ (show V1.drew.heap[w.heap.size]? = _ from hr1))
  clear hW1 hE1 hr1 hp1 hb
  go_wp2_with fail
  rw [rounds_succ]
  go_wp2_with (go_at_call 51; refine (hR2.out _).mono ?_; rintro e w1 ⟨rfl, hb⟩)
  refine wp_name fun V2 hV2 => ?_
  have hE2 : Ext w V2 := by rw [hV2.out]; exact (by repeat (first | exact Ext.refl _ | assumption | apply Ext.alloc | apply Ext.drew | apply Ext.drewN | apply Ext.bytes | apply Ext.iter | refine Ext.setCell ?_ (by simp; omega) _ | refine Ext.trans ?_ (by assumption)))
  have hr2 : V2.heap[w.heap.size]? = some (.cells #[.int .u32 (X 0), .int .u32 (X 1), .int .u32 (X 2), .int .u32 (X 3), .int .u32 (X 4), .int .u32 (X 5), .int .u32 (X 6), .int .u32 (X 7), .int .u32 0, .int .u32 0, .int .u32 0, .int .u32 0, .int .u32 0, .int .u32 0, .int .u32 0, .int .u32 0] 122 (0, 0)) := by rw [hV2.out]; exact Ext.blk (Ext.alloc hb _) (hw1.out)
  have hp2 : V2.heap[w1.heap.size]? = some (.cells #[.int .u32 (X 8), .int .u32 (X 9), .int .u32 (X 10), .int .u32 (X 11)] 85 (0, 0)) := by rw [hV2.out]; exact heap_alloc_new _ _
  clear hV2
  refine wp_region_seq (fun w' => Ext w w') (by kernel_rfl) (by kernel_rfl) (by kernel_rfl) (by exact (by repeat (first | exact Ext.refl _ | assumption | apply Ext.alloc | apply Ext.drew | apply Ext.drewN | apply Ext.bytes | apply Ext.iter | refine Ext.setCell ?_ (by simp; omega) _ | refine Ext.trans ?_ (by assumption)))) ?_
  repeat (first
    | (refine wpSeq_skip rfl ?_; (try simp only [Act.put, List.setIfInBounds_toArray, List.set_cons_zero, List.set_cons_succ]))
    | (apply wpSeq_still; exact rfl; exact rfl; (intro w' hw'; go_simp; first | done | exact rfl); (try simp only [Act.put, List.setIfInBounds_toArray, List.set_cons_zero, List.set_cons_succ])))
  refine wpSeq_busy rfl rfl (busy_copy_row (.tmp 25) (.tmp 26) 123 123 rfl 83 Tryd.underlying123 (by kernel_rfl) w.heap.size 8 8 8 ⟨w1.heap.size, 0, none⟩ 4 4 rfl rfl _ _ (show V2.drew.heap[w.heap.size]? = _ from hr2) [.int .u32 (X 8), .int .u32 (X 9), .int .u32 (X 10), .int .u32 (X 11)] rfl (four_cells (row_cell (show V2.drew.heap[w1.heap.size]? = _ from hp2) rfl) (row_cell (show V2.drew.heap[w1.heap.size]? = _ from hp2) rfl) (row_cell (show V2.drew.heap[w1.heap.size]? = _ from hp2) rfl) (row_cell (show V2.drew.heap[w1.heap.size]? = _ from hp2) rfl)) (by simp) (by simp [Value.oneCell']) (Ext.setRow (by exact (by repeat (first | exact Ext.refl _ | assumption | apply Ext.alloc | apply Ext.drew | apply Ext.drewN | apply Ext.bytes | apply Ext.iter | refine Ext.setCell ?_ (by simp; omega) _ | refine Ext.trans ?_ (by assumption)))) (Nat.le_refl _) _) ?_)
  refine wpSeq_fin fun W2 hW2 hq2 => ?_
  have hw2 := Hd.mk (show W2.heap[w.heap.size]? = some (.cells #[.int .u32 (X 0), .int .u32 (X 1), .int .u32 (X 2), .int .u32 (X 3), .int .u32 (X 4), .int .u32 (X 5), .int .u32 (X 6), .int .u32 (X 7), .int .u32 (X 8), .int .u32 (X 9), .int .u32 (X 10), .int .u32 (X 11), .int .u32 0, .int .u32 0, .int .u32 0, .int .u32 0] 122 (0, 0)) by rw [hW2.out]; exact setRow_heap _ _ _ _ _ _ (show V2.drew.heap[w.heap.size]? = _ from hr2))
  clear hW2 hE2 hr2 hp2 hb
  go_wp2_with fail
  rw [rounds_succ]
  go_wp2_with (go_at_call 51; refine (hR3.out _).mono ?_; rintro e w1 ⟨rfl, hb⟩)
  refine wp_name fun V3 hV3 => ?_
  have hE3 : Ext w V3 := by rw [hV3.out]; exact (by repeat (first | exact Ext.refl _ | assumption | apply Ext.alloc | apply Ext.drew | apply Ext.drewN | apply Ext.bytes | apply Ext.iter | refine Ext.setCell ?_ (by simp; omega) _ | refine Ext.trans ?_ (by assumption)))
  have hr3 : V3.heap[w.heap.size]? = some (.cells #[.int .u32 (X 0), .int .u32 (X 1), .int .u32 (X 2), .int .u32 (X 3), .int .u32 (X 4), .int .u32 (X 5), .int .u32 (X 6), .int .u32 (X 7), .int .u32 (X 8), .int .u32 (X 9), .int .u32 (X 10), .int .u32 (X 11), .int .u32 0, .int .u32 0, .int .u32 0, .int .u32 0] 122 (0, 0)) := by rw [hV3.out]; exact Ext.blk (Ext.alloc hb _) (hw2.out)
  have hp3 : V3.heap[w1.heap.size]? = some (.cells #[.int .u32 (X 12), .int .u32 (X 13), .int .u32 (X 14), .int .u32 (X 15)] 85 (0, 0)) := by rw [hV3.out]; exact heap_alloc_new _ _
  clear hV3
  refine wp_region_seq (fun w' => Ext w w') (by kernel_rfl) (by kernel_rfl) (by kernel_rfl) (by exact (by repeat (first | exact Ext.refl _ | assumption | apply Ext.alloc | apply Ext.drew | apply Ext.drewN | apply Ext.bytes | apply Ext.iter | refine Ext.setCell ?_ (by simp; omega) _ | refine Ext.trans ?_ (by assumption)))) ?_
  repeat (first
    | (refine wpSeq_skip rfl ?_; (try simp only [Act.put, List.setIfInBounds_toArray, List.set_cons_zero, List.set_cons_succ]))
    | (apply wpSeq_still; exact rfl; exact rfl; (intro w' hw'; go_simp; first | done | exact rfl); (try simp only [Act.put, List.setIfInBounds_toArray, List.set_cons_zero, List.set_cons_succ])))
  refine wpSeq_busy rfl rfl (busy_copy_row (.tmp 25) (.tmp 26) 123 123 rfl 83 Tryd.underlying123 (by kernel_rfl) w.heap.size 12 4 4 ⟨w1.heap.size, 0, none⟩ 4 4 rfl rfl _ _ (show V3.drew.heap[w.heap.size]? = _ from hr3) [.int .u32 (X 12), .int .u32 (X 13), .int .u32 (X 14), .int .u32 (X 15)] rfl (four_cells (row_cell (show V3.drew.heap[w1.heap.size]? = _ from hp3) rfl) (row_cell (show V3.drew.heap[w1.heap.size]? = _ from hp3) rfl) (row_cell (show V3.drew.heap[w1.heap.size]? = _ from hp3) rfl) (row_cell (show V3.drew.heap[w1.heap.size]? = _ from hp3) rfl)) (by simp) (by simp [Value.oneCell']) (Ext.setRow (by exact (by repeat (first | exact Ext.refl _ | assumption | apply Ext.alloc | apply Ext.drew | apply Ext.drewN | apply Ext.bytes | apply Ext.iter | refine Ext.setCell ?_ (by simp; omega) _ | refine Ext.trans ?_ (by assumption)))) (Nat.le_refl _) _) ?_)
  refine wpSeq_fin fun W3 hW3 hq3 => ?_
  have hw3 := Hd.mk (show W3.heap[w.heap.size]? = some (.cells #[.int .u32 (X 0), .int .u32 (X 1), .int .u32 (X 2), .int .u32 (X 3), .int .u32 (X 4), .int .u32 (X 5), .int .u32 (X 6), .int .u32 (X 7), .int .u32 (X 8), .int .u32 (X 9), .int .u32 (X 10), .int .u32 (X 11), .int .u32 (X 12), .int .u32 (X 13), .int .u32 (X 14), .int .u32 (X 15)] 122 (0, 0)) by rw [hW3.out]; exact setRow_heap _ _ _ _ _ _ (show V3.drew.heap[w.heap.size]? = _ from hr3))
  clear hW3 hE3 hr3 hp3 hb
  go_wp2_with fail
  rw [rounds_succ]
  have hgW := Ext.blk hq3 hgx.out
  have c0 : W3.cell? ⟨g, 0, none⟩ = some (.int .u32 x.a) := row_cell hgW rfl
  have c1 : W3.cell? ⟨g, 1, none⟩ = some (.int .u32 x.b) := row_cell hgW rfl
  have c2 : W3.cell? ⟨g, 2, none⟩ = some (.int .u32 x.c) := row_cell hgW rfl
  have c3 : W3.cell? ⟨g, 3, none⟩ = some (.int .u32 x.d) := row_cell hgW rfl
  have HgW := Hd.mk hgW
  clear hgW
  go_upto_region 8 with fail
  refine wp_name fun Y0 hY0 => ?_
  have hEy : Ext w Y0 := by rw [hY0.out]; exact (by repeat (first | exact Ext.refl _ | assumption | apply Ext.alloc | apply Ext.drew | apply Ext.drewN | apply Ext.bytes | apply Ext.iter | refine Ext.setCell ?_ (by simp; omega) _ | refine Ext.trans ?_ (by assumption)))
  have hy0 : Y0.heap[W3.heap.size]? = some (.cells (q32L x) 85 (0, 0)) := by rw [hY0.out]; exact heap_alloc_new _ _
  have hyw : Y0.heap[w.heap.size]? = some (.cells #[.int .u32 (X 0), .int .u32 (X 1), .int .u32 (X 2), .int .u32 (X 3), .int .u32 (X 4), .int .u32 (X 5), .int .u32 (X 6), .int .u32 (X 7), .int .u32 (X 8), .int .u32 (X 9), .int .u32 (X 10), .int .u32 (X 11), .int .u32 (X 12), .int .u32 (X 13), .int .u32 (X 14), .int .u32 (X 15)] 122 (0, 0)) := by rw [hY0.out]; exact Ext.blk (Ext.alloc (Ext.refl _) _) hw3.out
  have hyg : Y0.heap[g]? = some (.cells (q32L x) t (0, 0)) := by rw [hY0.out]; exact Ext.blk (Ext.alloc (Ext.refl _) _) HgW.out
  have l1 := row_lt hw3.out
  clear c0 c1 c2 c3 HgW hw3 hw2 hw1 hw0 hq0 hq1 hq2 hR0 hR1 hR2 hR3 hY0
  have H1 := Hd.mk hy0
  have H2 := Hd.mk hyw
  have H3 := Hd.mk hyg
  clear hy0 hyw hyg
  go_wp2_with (first | (go_at_call 87; refine (constants_c _).mono ?_; rintro e w8 ⟨rfl, hb8⟩) | (refine wpList_store_row rfl _ _ _ rfl w8.heap.size (kcells .u32) rfl (by kernel_rfl) _ _ (heap_alloc_new _ _) (by kernel_rfl) (by kernel_rfl) (by kernel_rfl) ?_) | (go_at_call 88; refine (roundsP_c _).mono ?_; rintro e w9 ⟨R, gc, g0, h0, g1, h1, g2, h2, g3, h3, rfl, j0, j1, j2, j3, xc, x0, y0, x1, y1, x2, y2, x3, y3, hb9⟩))
  have hEx : Ext Y0 w9 := Ext.trans (Ext.setRow (Ext.alloc hb8 _) (Ext.size hb8) _) hb9
  have hEw : Ext w w9 := Ext.trans hEy hEx
  have r7 := Hd.mk (Ext.blk hEx H1.out)
  have rW := Hd.mk (Ext.blk hEx H2.out)
  have rg := Hd.mk (Ext.blk hEx H3.out)
  have rK := Hd.mk (Ext.blk hb9 (setRow_heap _ _ _ _ _ _ (heap_alloc_new _ _)))
  have l2 := row_lt (Ext.blk hb8 H1.out)
  clear H1 H2 H3 hb9 hEx
  refine wp_loop_rounds 5 ?_
  rw [rounds_succ]
  go_wp2_with fail
  refine wp_name fun Z0 hZ0 => ?_
  have hA0 : Ext w9 Z0 := by rw [hZ0.out]; exact (by repeat (first | exact Ext.refl _ | assumption | apply Ext.alloc | apply Ext.drew | apply Ext.drewN | apply Ext.bytes | apply Ext.iter | refine Ext.setCell ?_ (by simp; omega) _ | refine Ext.trans ?_ (by assumption)))
  have hT0 := Hd.mk (show Z0.heap[w9.heap.size]? = some (.cells #[fnv 111, clo2 113 g0 h0, .int .i64 7, .int .i64 12, .int .i64 17, .int .i64 22] 128 (0, 0)) by rw [hZ0.out]; exact heap_alloc_new _ _)
  have hS0 : Exts (· = W3.heap.size) w9 Z0 := Exts.then (Exts.refl _) hA0
  have hy70 := Hd.mk (Ext.blk hA0 r7.out)
  have lT0 : w9.heap.size < Z0.heap.size := row_lt hT0.out
  have l70 : W3.heap.size < w9.heap.size := row_lt r7.out
  clear hZ0
  go_loopw [38] (fun j wr => ∃ k : Nat, k ≤ 16 ∧ j = .int .i64 k ∧ Exts (· = W3.heap.size) Z0 wr ∧ Hd (wr.heap[W3.heap.size]? = some (.cells (q32L (stps X (0 + k) x)) 85 (0, 0)))) (fun j _ => 16 - (intOf j).toNat)
  case atStart => exact ⟨0, by omega, rfl, Exts.refl _, ⟨hy70.out⟩⟩
  case round =>
    obtain ⟨k, hk, rfl, hE, hrow⟩ := hrel
    by_cases hlt : k < 16
    · have hlti : (k : Int) < 16 := by omega
      have hrow := Hd.mk (show wr.heap[W3.heap.size]? = some (.cells (q32L (stps X k x)) 85 (0, 0)) by have := hrow.out; rwa [Nat.zero_add] at this)
      have hnl : k < 64 := by omega
      have hyU : (stps X k x).U := stps_U hx
      have Hs := Hd.mk (show stps X (k + 1) x = stp X k (stps X k x) from rfl)
      generalize stps X k x = y at *
      have hm : wi k < 16 := wi_lt k (by omega)
      have hbS : byS (byT k) := byT_S k (by omega)
      obtain ⟨m, em⟩ : ∃ m, wi k = m := ⟨_, rfl⟩
      obtain ⟨xm, ex⟩ : ∃ v, X m = v := ⟨_, rfl⟩
      obtain ⟨kn, ek⟩ : ∃ v, K k = v := ⟨_, rfl⟩
      obtain ⟨bn, eb⟩ : ∃ v, byT k = v := ⟨_, rfl⟩
      obtain ⟨r, er⟩ : ∃ v, k % 4 = v := ⟨_, rfl⟩
      have hr : r < 4 := by omega
      have hri : (r : Int) < 4 := by omega
      have hmi : (m : Int) < 16 := by omega
      have hni : (k : Int) < 64 := by omega
      have htm : (k : Int).tmod 4 = (r : Int) := by rw [Int.tmod_eq_emod_of_nonneg (by omega)]; omega
      have cb := by_at0 k r (by omega) (by omega) (a := fnv 111) (b := clo2 113 g0 h0)
      have hC : ∀ w', Ext wr w' → TkC wr W3.heap.size w.heap.size w8.heap.size w9.heap.size y k m r kn xm bn (fnv 111) (clo2 113 g0 h0) w' := TkC.of ⟨_, hrow.out⟩
        (by rw [← ek]; exact hE.cell (hS0.cell (row_cell rK.out (kcells_at k (by omega))) (by simp only; omega)) (by simp only; omega)) (by rw [← ex]; exact hE.cell (hS0.cell (row_cell rW.out (xrow_at X m (by omega))) (by simp only; omega)) (by simp only; omega))
        (hE.cell (row_cell hT0.out rfl) (by simp only; omega)) (hE.cell (row_cell hT0.out rfl) (by simp only; omega)) (by rw [← eb]; exact hE.cell (row_cell hT0.out cb) (by simp only; omega))
      have cx : wr.cell? ⟨g0, 0, none⟩ = _ := hE.cell (hS0.cell x0 (ne7 r7.out x0)) (ne7 hy70.out (hS0.cell x0 (ne7 r7.out x0)))
      have cy : wr.cell? ⟨h0, 0, none⟩ = _ := hE.cell (hS0.cell y0 (ne7 r7.out y0)) (ne7 hy70.out (hS0.cell y0 (ne7 r7.out y0)))
      obtain ⟨F, eF⟩ : ∃ v, Fi k y.b y.c y.d = v := ⟨_, rfl⟩
      have HF := Hd.mk (show ∀ w', Ext wr w' → Calls Tryd.prog 111 #[.int .u32 y.b, .int .u32 y.c, .int .u32 y.d] w' (Ret w' (.int .u32 F)) from fun w' hw => by rw [← eF]; exact of0_c k (by omega) _ _ _ hyU.b hyU.c hyU.d w')
      have HW := Hd.mk (show ∀ w', Ext wr w' → Calls Tryd.prog 113 #[.int .i64 k, .pointer (some ⟨g0, 0, none⟩), .pointer (some ⟨h0, 0, none⟩)] w' (Ret w' (.int .i64 m)) from fun w' hw => by rw [← em]; exact wdq_c k (by omega) _ _ (.inl ⟨by omega, rfl, rfl⟩) _ _ w' (Ext.cell hw cx) (Ext.cell hw cy))
      obtain ⟨s1, e1⟩ : ∃ v, IntKind.u32.wrap (y.a + F) = v := ⟨_, rfl⟩
      obtain ⟨s2, e2⟩ : ∃ v, IntKind.u32.wrap (s1 + kn) = v := ⟨_, rfl⟩
      obtain ⟨s3, e3⟩ : ∃ v, IntKind.u32.wrap (s2 + xm) = v := ⟨_, rfl⟩
      obtain ⟨ρ, eρ⟩ : ∃ v, rotl s3 bn = v := ⟨_, rfl⟩
      obtain ⟨b', e4⟩ : ∃ v, IntKind.u32.wrap (y.b + ρ) = v := ⟨_, rfl⟩
      have hs3 : U s3 := by rw [← e3, IntKind.wrap_u32]; exact U_mod _
      have HR := Hd.mk (show ∀ w', Calls Tryd.prog 89 #[.int .u32 s3, .int .i64 bn] w' (Ret w' (.int .u32 ρ)) from fun w' => by rw [← eρ]; exact rotP_c _ _ hs3 (eb ▸ hbS) w')
      have Hst := Hd.mk (stp_of X k m y F kn xm bn s1 s2 s3 ρ b' eF ek em ex eb e1 e2 e3 eρ e4)
      clear eF ek em ex eb eρ er hbS cb
      go_upto_region 16 with fail
      refine wp_region_seq (fun w' => TkC wr W3.heap.size w.heap.size w8.heap.size w9.heap.size y k m r kn xm bn (fnv 111) (clo2 113 g0 h0) w') (by kernel_rfl) (by kernel_rfl) (by kernel_rfl) (hC _ (by repeat (first | exact Ext.refl _ | assumption | apply Ext.alloc | apply Ext.drew | apply Ext.drewN | apply Ext.bytes | apply Ext.iter | refine Ext.setCell ?_ (by simp; omega) _ | refine Ext.trans ?_ (by assumption)))) ?_
      repeat (first
        | (refine wpSeq_skip rfl ?_; (try simp only [Act.put, List.setIfInBounds_toArray, List.set_cons_zero, List.set_cons_succ]))
        | (apply wpSeq_still; exact rfl; exact rfl; (rintro w' ⟨hw', f0, f1, f2, f3, f4, f5, f6, f7, f8⟩; go_simp; first | done | exact rfl); (try simp only [Act.put, List.setIfInBounds_toArray, List.set_cons_zero, List.set_cons_succ])))
      refine wpSeq_busy rfl rfl ?_
      go_simp
      go_at_call 111
      refine (HF.out _ (by repeat (first | exact Ext.refl _ | assumption | apply Ext.alloc | apply Ext.drew | apply Ext.drewN | apply Ext.bytes | apply Ext.iter | refine Ext.setCell ?_ (by simp; omega) _ | refine Ext.trans ?_ (by assumption)))).mono ?_
      rintro e wa ⟨rfl, ha⟩
      refine ⟨_, rfl, hC _ (by repeat (first | exact Ext.refl _ | assumption | apply Ext.alloc | apply Ext.drew | apply Ext.drewN | apply Ext.bytes | apply Ext.iter | refine Ext.setCell ?_ (by simp; omega) _ | refine Ext.trans ?_ (by assumption))), ?_⟩
      (try simp only [Act.put, List.setIfInBounds_toArray, List.set_cons_zero, List.set_cons_succ])
      repeat (first
        | (refine wpSeq_skip rfl ?_; (try simp only [Act.put, List.setIfInBounds_toArray, List.set_cons_zero, List.set_cons_succ]))
        | (apply wpSeq_still; exact rfl; exact rfl; (rintro w' ⟨hw', f0, f1, f2, f3, f4, f5, f6, f7, f8⟩; go_simp; first | done | exact rfl); (try simp only [Act.put, List.setIfInBounds_toArray, List.set_cons_zero, List.set_cons_succ])))
      refine wpSeq_busy rfl rfl ?_
      go_simp
      go_at_call 113
      refine (HW.out _ (by repeat (first | exact Ext.refl _ | assumption | apply Ext.alloc | apply Ext.drew | apply Ext.drewN | apply Ext.bytes | apply Ext.iter | refine Ext.setCell ?_ (by simp; omega) _ | refine Ext.trans ?_ (by assumption)))).mono ?_
      rintro e wb ⟨rfl, hb⟩
      refine ⟨_, rfl, hC _ (by repeat (first | exact Ext.refl _ | assumption | apply Ext.alloc | apply Ext.drew | apply Ext.drewN | apply Ext.bytes | apply Ext.iter | refine Ext.setCell ?_ (by simp; omega) _ | refine Ext.trans ?_ (by assumption))), ?_⟩
      (try simp only [Act.put, List.setIfInBounds_toArray, List.set_cons_zero, List.set_cons_succ])
      repeat (first
        | (refine wpSeq_skip rfl ?_; (try simp only [Act.put, List.setIfInBounds_toArray, List.set_cons_zero, List.set_cons_succ]))
        | (apply wpSeq_still; exact rfl; exact rfl; (rintro w' ⟨hw', f0, f1, f2, f3, f4, f5, f6, f7, f8⟩; go_simp; first | done | exact rfl); (try simp only [Act.put, List.setIfInBounds_toArray, List.set_cons_zero, List.set_cons_succ])))
      refine wpSeq_nil ?_
      intro _
      go_upto_region 17 with fail
      refine wp_region_last (fun w' => TkC wr W3.heap.size w.heap.size w8.heap.size w9.heap.size y k m r kn xm bn (fnv 111) (clo2 113 g0 h0) w') (by kernel_rfl) (by kernel_rfl) (by kernel_rfl) (by kernel_rfl) (hC _ (by repeat (first | exact Ext.refl _ | assumption | apply Ext.alloc | apply Ext.drew | apply Ext.drewN | apply Ext.bytes | apply Ext.iter | refine Ext.setCell ?_ (by simp; omega) _ | refine Ext.trans ?_ (by assumption)))) ?_
      repeat (first
        | (refine wpLast_skip rfl ?_; (try simp only [Act.put, List.setIfInBounds_toArray, List.set_cons_zero, List.set_cons_succ]))
        | (apply wpLast_still; exact rfl; exact rfl; (rintro w' ⟨hw', f0, f1, f2, f3, f4, f5, f6, f7, f8⟩; go_simp; first | done | exact rfl); (try simp only [Act.put, List.setIfInBounds_toArray, List.set_cons_zero, List.set_cons_succ])))
      refine wpLast_busy rfl rfl ?_
      go_simp
      go_at_call 89
      refine (HR.out _).mono ?_
      rintro e wc ⟨rfl, hc⟩
      refine ⟨_, rfl, hC _ (by repeat (first | exact Ext.refl _ | assumption | apply Ext.alloc | apply Ext.drew | apply Ext.drewN | apply Ext.bytes | apply Ext.iter | refine Ext.setCell ?_ (by simp; omega) _ | refine Ext.trans ?_ (by assumption))), ?_⟩
      (try simp only [Act.put, List.setIfInBounds_toArray, List.set_cons_zero, List.set_cons_succ])
      repeat (first
        | (refine wpLast_skip rfl ?_; (try simp only [Act.put, List.setIfInBounds_toArray, List.set_cons_zero, List.set_cons_succ]))
        | (apply wpLast_still; exact rfl; exact rfl; (rintro w' ⟨hw', f0, f1, f2, f3, f4, f5, f6, f7, f8⟩; go_simp; first | done | exact rfl); (try simp only [Act.put, List.setIfInBounds_toArray, List.set_cons_zero, List.set_cons_succ])))
      have hEc : Ext wr wc := (by repeat (first | exact Ext.refl _ | assumption | apply Ext.alloc | apply Ext.drew | apply Ext.drewN | apply Ext.bytes | apply Ext.iter | refine Ext.setCell ?_ (by simp; omega) _ | refine Ext.trans ?_ (by assumption)))
      refine wpLast_last rfl rfl (busy_store_row _ _ _ rfl W3.heap.size (q32L ⟨y.d, b', y.b, y.c⟩) rfl rfl _ _ (Ext.blk hEc hrow.out) (by kernel_rfl) rfl (by simp [q32L, Value.oneCell']) trivial ?_)
      refine wpLast_nil fun wf hwf => ?_
      have hEf : Exts (· = W3.heap.size) Z0 wf := by rw [hwf.out]; exact (hE.then hEc).setRow (.inl rfl) _
      have hrf := Hd.mk (show wf.heap[W3.heap.size]? = some (.cells (q32L (stps X (k + 1) x)) 85 (0, 0)) by rw [hwf.out, Hs.out, Hst.out]; exact setRow_heap _ _ _ _ _ _ (Ext.blk hEc hrow.out))
      clear hwf
      go_wp2
      go_roundw
      case rel => exact ⟨k + 1, by omega, by go_num, hEf, ⟨by have := hrf.out; rwa [show 0 + (k + 1) = k + 1 from by omega]⟩⟩
      case measure => simp [intOf]; omega
    have h16 : k = 16 := by omega
    subst h16
    clear hlt hk
    obtain ⟨E0, rfl⟩ : ∃ E : World, E = wr := ⟨_, rfl⟩
    have hF0 : Exts (· = W3.heap.size) w9 E0 := hS0.trans hE
    have hR70 := hrow
    clear hrow hE
    go_wp2_with fail
    rw [rounds_succ]
    go_wp2_with fail
    refine wp_name fun Z1 hZ1 => ?_
    have hA1 : Ext E0 Z1 := by rw [hZ1.out]; exact (by repeat (first | exact Ext.refl _ | assumption | apply Ext.alloc | apply Ext.drew | apply Ext.drewN | apply Ext.bytes | apply Ext.iter | refine Ext.setCell ?_ (by simp; omega) _ | refine Ext.trans ?_ (by assumption)))
    have hT1 := Hd.mk (show Z1.heap[E0.heap.size]? = some (.cells #[clo1 114 gc, clo2 113 g1 h1, .int .i64 5, .int .i64 9, .int .i64 14, .int .i64 20] 128 (0, 0)) by rw [hZ1.out]; exact heap_alloc_new _ _)
    have hS1 : Exts (· = W3.heap.size) w9 Z1 := Exts.then hF0 hA1
    have hy71 := Hd.mk (Ext.blk hA1 hR70.out)
    have lT1 : E0.heap.size < Z1.heap.size := row_lt hT1.out
    have l71 : W3.heap.size < E0.heap.size := row_lt hR70.out
    clear hZ1
    go_loopw [38] (fun j wr => ∃ k : Nat, k ≤ 16 ∧ j = .int .i64 k ∧ Exts (· = W3.heap.size) Z1 wr ∧ Hd (wr.heap[W3.heap.size]? = some (.cells (q32L (stps X (16 + k) x)) 85 (0, 0)))) (fun j _ => 16 - (intOf j).toNat)
    case atStart => exact ⟨0, by omega, rfl, Exts.refl _, ⟨hy71.out⟩⟩
    case round =>
      obtain ⟨k, hk, rfl, hE, hrow⟩ := hrel
      by_cases hlt : k < 16
      · have hlti : (k : Int) < 16 := by omega
        obtain ⟨n, en⟩ : ∃ n : Nat, 16 + (k : Int) = n := ⟨16 + k, by omega⟩
        have hn : 16 + k = n := by omega
        rw [hn] at hrow
        have Hn := Hd.mk hn
        clear hn
        have hnl : n < 64 := by have := Hn.out; omega
        have hng : 16 ≤ n := by have := Hn.out; omega
        have hnu : n < 32 := by have := Hn.out; omega
        have hyU : (stps X n x).U := stps_U hx
        have Hs := Hd.mk (show stps X (n + 1) x = stp X n (stps X n x) from rfl)
        generalize stps X n x = y at *
        have hm : wi n < 16 := wi_lt n (by omega)
        have hbS : byS (byT n) := byT_S n (by omega)
        obtain ⟨m, em⟩ : ∃ m, wi n = m := ⟨_, rfl⟩
        obtain ⟨xm, ex⟩ : ∃ v, X m = v := ⟨_, rfl⟩
        obtain ⟨kn, ek⟩ : ∃ v, K n = v := ⟨_, rfl⟩
        obtain ⟨bn, eb⟩ : ∃ v, byT n = v := ⟨_, rfl⟩
        obtain ⟨r, er⟩ : ∃ v, k % 4 = v := ⟨_, rfl⟩
        have hr : r < 4 := by omega
        have hri : (r : Int) < 4 := by omega
        have hmi : (m : Int) < 16 := by omega
        have hni : (n : Int) < 64 := by omega
        have htm : (k : Int).tmod 4 = (r : Int) := by rw [Int.tmod_eq_emod_of_nonneg (by omega)]; omega
        have cb := by_at1 n r (by omega) (by have := Hn.out; omega) (a := clo1 114 gc) (b := clo2 113 g1 h1)
        have hC : ∀ w', Ext wr w' → TkC wr W3.heap.size w.heap.size w8.heap.size E0.heap.size y n m r kn xm bn (clo1 114 gc) (clo2 113 g1 h1) w' := TkC.of ⟨_, hrow.out⟩
          (by rw [← ek]; exact hE.cell (hS1.cell (row_cell rK.out (kcells_at n (by omega))) (by simp only; omega)) (by simp only; omega)) (by rw [← ex]; exact hE.cell (hS1.cell (row_cell rW.out (xrow_at X m (by omega))) (by simp only; omega)) (by simp only; omega))
          (hE.cell (row_cell hT1.out rfl) (by simp only; omega)) (hE.cell (row_cell hT1.out rfl) (by simp only; omega)) (by rw [← eb]; exact hE.cell (row_cell hT1.out cb) (by simp only; omega))
        have cx : wr.cell? ⟨g1, 0, none⟩ = _ := hE.cell (hS1.cell x1 (ne7 r7.out x1)) (ne7 hy71.out (hS1.cell x1 (ne7 r7.out x1)))
        have cy : wr.cell? ⟨h1, 0, none⟩ = _ := hE.cell (hS1.cell y1 (ne7 r7.out y1)) (ne7 hy71.out (hS1.cell y1 (ne7 r7.out y1)))
        have cc : wr.cell? ⟨gc, 0, none⟩ = _ := hE.cell (hS1.cell xc (ne7f r7.out xc)) (ne7f hy71.out (hS1.cell xc (ne7f r7.out xc)))
        obtain ⟨F, eF⟩ : ∃ v, Fi n y.b y.c y.d = v := ⟨_, rfl⟩
        have HF := Hd.mk (show ∀ w', Ext wr w' → Calls Tryd.prog 114 #[.int .u32 y.b, .int .u32 y.c, .int .u32 y.d, .pointer (some ⟨gc, 0, none⟩)] w' (Ret w' (.int .u32 F)) from fun w' hw => by rw [← eF]; exact of1_c n (by omega) (by omega) _ _ _ hyU.b hyU.c hyU.d gc w' (Ext.cell hw cc))
        have HW := Hd.mk (show ∀ w', Ext wr w' → Calls Tryd.prog 113 #[.int .i64 n, .pointer (some ⟨g1, 0, none⟩), .pointer (some ⟨h1, 0, none⟩)] w' (Ret w' (.int .i64 m)) from fun w' hw => by rw [← em]; exact wdq_c n (by omega) _ _ (.inr (.inl ⟨by omega, by omega, rfl, rfl⟩)) _ _ w' (Ext.cell hw cx) (Ext.cell hw cy))
        obtain ⟨s1, e1⟩ : ∃ v, IntKind.u32.wrap (y.a + F) = v := ⟨_, rfl⟩
        obtain ⟨s2, e2⟩ : ∃ v, IntKind.u32.wrap (s1 + kn) = v := ⟨_, rfl⟩
        obtain ⟨s3, e3⟩ : ∃ v, IntKind.u32.wrap (s2 + xm) = v := ⟨_, rfl⟩
        obtain ⟨ρ, eρ⟩ : ∃ v, rotl s3 bn = v := ⟨_, rfl⟩
        obtain ⟨b', e4⟩ : ∃ v, IntKind.u32.wrap (y.b + ρ) = v := ⟨_, rfl⟩
        have hs3 : U s3 := by rw [← e3, IntKind.wrap_u32]; exact U_mod _
        have HR := Hd.mk (show ∀ w', Calls Tryd.prog 89 #[.int .u32 s3, .int .i64 bn] w' (Ret w' (.int .u32 ρ)) from fun w' => by rw [← eρ]; exact rotP_c _ _ hs3 (eb ▸ hbS) w')
        have Hst := Hd.mk (stp_of X n m y F kn xm bn s1 s2 s3 ρ b' eF ek em ex eb e1 e2 e3 eρ e4)
        clear eF ek em ex eb eρ er hbS cb
        go_upto_region 16 with fail
        refine wp_region_seq (fun w' => TkC wr W3.heap.size w.heap.size w8.heap.size E0.heap.size y n m r kn xm bn (clo1 114 gc) (clo2 113 g1 h1) w') (by kernel_rfl) (by kernel_rfl) (by kernel_rfl) (hC _ (by repeat (first | exact Ext.refl _ | assumption | apply Ext.alloc | apply Ext.drew | apply Ext.drewN | apply Ext.bytes | apply Ext.iter | refine Ext.setCell ?_ (by simp; omega) _ | refine Ext.trans ?_ (by assumption)))) ?_
        repeat (first
          | (refine wpSeq_skip rfl ?_; (try simp only [Act.put, List.setIfInBounds_toArray, List.set_cons_zero, List.set_cons_succ]))
          | (apply wpSeq_still; exact rfl; exact rfl; (rintro w' ⟨hw', f0, f1, f2, f3, f4, f5, f6, f7, f8⟩; go_simp; first | done | exact rfl); (try simp only [Act.put, List.setIfInBounds_toArray, List.set_cons_zero, List.set_cons_succ])))
        refine wpSeq_busy rfl rfl ?_
        go_simp
        go_at_call 114
        refine (HF.out _ (by repeat (first | exact Ext.refl _ | assumption | apply Ext.alloc | apply Ext.drew | apply Ext.drewN | apply Ext.bytes | apply Ext.iter | refine Ext.setCell ?_ (by simp; omega) _ | refine Ext.trans ?_ (by assumption)))).mono ?_
        rintro e wa ⟨rfl, ha⟩
        refine ⟨_, rfl, hC _ (by repeat (first | exact Ext.refl _ | assumption | apply Ext.alloc | apply Ext.drew | apply Ext.drewN | apply Ext.bytes | apply Ext.iter | refine Ext.setCell ?_ (by simp; omega) _ | refine Ext.trans ?_ (by assumption))), ?_⟩
        (try simp only [Act.put, List.setIfInBounds_toArray, List.set_cons_zero, List.set_cons_succ])
        repeat (first
          | (refine wpSeq_skip rfl ?_; (try simp only [Act.put, List.setIfInBounds_toArray, List.set_cons_zero, List.set_cons_succ]))
          | (apply wpSeq_still; exact rfl; exact rfl; (rintro w' ⟨hw', f0, f1, f2, f3, f4, f5, f6, f7, f8⟩; go_simp; first | done | exact rfl); (try simp only [Act.put, List.setIfInBounds_toArray, List.set_cons_zero, List.set_cons_succ])))
        refine wpSeq_busy rfl rfl ?_
        go_simp
        go_at_call 113
        refine (HW.out _ (by repeat (first | exact Ext.refl _ | assumption | apply Ext.alloc | apply Ext.drew | apply Ext.drewN | apply Ext.bytes | apply Ext.iter | refine Ext.setCell ?_ (by simp; omega) _ | refine Ext.trans ?_ (by assumption)))).mono ?_
        rintro e wb ⟨rfl, hb⟩
        refine ⟨_, rfl, hC _ (by repeat (first | exact Ext.refl _ | assumption | apply Ext.alloc | apply Ext.drew | apply Ext.drewN | apply Ext.bytes | apply Ext.iter | refine Ext.setCell ?_ (by simp; omega) _ | refine Ext.trans ?_ (by assumption))), ?_⟩
        (try simp only [Act.put, List.setIfInBounds_toArray, List.set_cons_zero, List.set_cons_succ])
        repeat (first
          | (refine wpSeq_skip rfl ?_; (try simp only [Act.put, List.setIfInBounds_toArray, List.set_cons_zero, List.set_cons_succ]))
          | (apply wpSeq_still; exact rfl; exact rfl; (rintro w' ⟨hw', f0, f1, f2, f3, f4, f5, f6, f7, f8⟩; go_simp; first | done | exact rfl); (try simp only [Act.put, List.setIfInBounds_toArray, List.set_cons_zero, List.set_cons_succ])))
        refine wpSeq_nil ?_
        intro _
        go_upto_region 17 with fail
        refine wp_region_last (fun w' => TkC wr W3.heap.size w.heap.size w8.heap.size E0.heap.size y n m r kn xm bn (clo1 114 gc) (clo2 113 g1 h1) w') (by kernel_rfl) (by kernel_rfl) (by kernel_rfl) (by kernel_rfl) (hC _ (by repeat (first | exact Ext.refl _ | assumption | apply Ext.alloc | apply Ext.drew | apply Ext.drewN | apply Ext.bytes | apply Ext.iter | refine Ext.setCell ?_ (by simp; omega) _ | refine Ext.trans ?_ (by assumption)))) ?_
        repeat (first
          | (refine wpLast_skip rfl ?_; (try simp only [Act.put, List.setIfInBounds_toArray, List.set_cons_zero, List.set_cons_succ]))
          | (apply wpLast_still; exact rfl; exact rfl; (rintro w' ⟨hw', f0, f1, f2, f3, f4, f5, f6, f7, f8⟩; go_simp; first | done | exact rfl); (try simp only [Act.put, List.setIfInBounds_toArray, List.set_cons_zero, List.set_cons_succ])))
        refine wpLast_busy rfl rfl ?_
        go_simp
        go_at_call 89
        refine (HR.out _).mono ?_
        rintro e wc ⟨rfl, hc⟩
        refine ⟨_, rfl, hC _ (by repeat (first | exact Ext.refl _ | assumption | apply Ext.alloc | apply Ext.drew | apply Ext.drewN | apply Ext.bytes | apply Ext.iter | refine Ext.setCell ?_ (by simp; omega) _ | refine Ext.trans ?_ (by assumption))), ?_⟩
        (try simp only [Act.put, List.setIfInBounds_toArray, List.set_cons_zero, List.set_cons_succ])
        repeat (first
          | (refine wpLast_skip rfl ?_; (try simp only [Act.put, List.setIfInBounds_toArray, List.set_cons_zero, List.set_cons_succ]))
          | (apply wpLast_still; exact rfl; exact rfl; (rintro w' ⟨hw', f0, f1, f2, f3, f4, f5, f6, f7, f8⟩; go_simp; first | done | exact rfl); (try simp only [Act.put, List.setIfInBounds_toArray, List.set_cons_zero, List.set_cons_succ])))
        have hEc : Ext wr wc := (by repeat (first | exact Ext.refl _ | assumption | apply Ext.alloc | apply Ext.drew | apply Ext.drewN | apply Ext.bytes | apply Ext.iter | refine Ext.setCell ?_ (by simp; omega) _ | refine Ext.trans ?_ (by assumption)))
        refine wpLast_last rfl rfl (busy_store_row _ _ _ rfl W3.heap.size (q32L ⟨y.d, b', y.b, y.c⟩) rfl rfl _ _ (Ext.blk hEc hrow.out) (by kernel_rfl) rfl (by simp [q32L, Value.oneCell']) trivial ?_)
        refine wpLast_nil fun wf hwf => ?_
        have hEf : Exts (· = W3.heap.size) Z1 wf := by rw [hwf.out]; exact (hE.then hEc).setRow (.inl rfl) _
        have hrf := Hd.mk (show wf.heap[W3.heap.size]? = some (.cells (q32L (stps X (n + 1) x)) 85 (0, 0)) by rw [hwf.out, Hs.out, Hst.out]; exact setRow_heap _ _ _ _ _ _ (Ext.blk hEc hrow.out))
        clear hwf
        go_wp2
        go_roundw
        case rel => exact ⟨k + 1, by omega, by go_num, hEf, ⟨by have := hrf.out; have := Hn.out; rwa [show 16 + (k + 1) = n + 1 from by omega]⟩⟩
        case measure => simp [intOf]; omega
      have h16 : k = 16 := by omega
      subst h16
      clear hlt hk
      obtain ⟨E1, rfl⟩ : ∃ E : World, E = wr := ⟨_, rfl⟩
      have hF1 : Exts (· = W3.heap.size) w9 E1 := hS1.trans hE
      have hR71 := hrow
      clear hrow hE
      go_wp2_with fail
      rw [rounds_succ]
      go_wp2_with fail
      refine wp_name fun Z2 hZ2 => ?_
      have hA2 : Ext E1 Z2 := by rw [hZ2.out]; exact (by repeat (first | exact Ext.refl _ | assumption | apply Ext.alloc | apply Ext.drew | apply Ext.drewN | apply Ext.bytes | apply Ext.iter | refine Ext.setCell ?_ (by simp; omega) _ | refine Ext.trans ?_ (by assumption)))
      have hT2 := Hd.mk (show Z2.heap[E1.heap.size]? = some (.cells #[fnv 115, clo2 113 g2 h2, .int .i64 4, .int .i64 11, .int .i64 16, .int .i64 23] 128 (0, 0)) by rw [hZ2.out]; exact heap_alloc_new _ _)
      have hS2 : Exts (· = W3.heap.size) w9 Z2 := Exts.then hF1 hA2
      have hy72 := Hd.mk (Ext.blk hA2 hR71.out)
      have lT2 : E1.heap.size < Z2.heap.size := row_lt hT2.out
      have l72 : W3.heap.size < E1.heap.size := row_lt hR71.out
      clear hZ2
      go_loopw [38] (fun j wr => ∃ k : Nat, k ≤ 16 ∧ j = .int .i64 k ∧ Exts (· = W3.heap.size) Z2 wr ∧ Hd (wr.heap[W3.heap.size]? = some (.cells (q32L (stps X (32 + k) x)) 85 (0, 0)))) (fun j _ => 16 - (intOf j).toNat)
      case atStart => exact ⟨0, by omega, rfl, Exts.refl _, ⟨hy72.out⟩⟩
      case round =>
        obtain ⟨k, hk, rfl, hE, hrow⟩ := hrel
        by_cases hlt : k < 16
        · have hlti : (k : Int) < 16 := by omega
          obtain ⟨n, en⟩ : ∃ n : Nat, 32 + (k : Int) = n := ⟨32 + k, by omega⟩
          have hn : 32 + k = n := by omega
          rw [hn] at hrow
          have Hn := Hd.mk hn
          clear hn
          have hnl : n < 64 := by have := Hn.out; omega
          have hng : 32 ≤ n := by have := Hn.out; omega
          have hnu : n < 48 := by have := Hn.out; omega
          have hyU : (stps X n x).U := stps_U hx
          have Hs := Hd.mk (show stps X (n + 1) x = stp X n (stps X n x) from rfl)
          generalize stps X n x = y at *
          have hm : wi n < 16 := wi_lt n (by omega)
          have hbS : byS (byT n) := byT_S n (by omega)
          obtain ⟨m, em⟩ : ∃ m, wi n = m := ⟨_, rfl⟩
          obtain ⟨xm, ex⟩ : ∃ v, X m = v := ⟨_, rfl⟩
          obtain ⟨kn, ek⟩ : ∃ v, K n = v := ⟨_, rfl⟩
          obtain ⟨bn, eb⟩ : ∃ v, byT n = v := ⟨_, rfl⟩
          obtain ⟨r, er⟩ : ∃ v, k % 4 = v := ⟨_, rfl⟩
          have hr : r < 4 := by omega
          have hri : (r : Int) < 4 := by omega
          have hmi : (m : Int) < 16 := by omega
          have hni : (n : Int) < 64 := by omega
          have htm : (k : Int).tmod 4 = (r : Int) := by rw [Int.tmod_eq_emod_of_nonneg (by omega)]; omega
          have cb := by_at2 n r (by omega) (by have := Hn.out; omega) (a := fnv 115) (b := clo2 113 g2 h2)
          have hC : ∀ w', Ext wr w' → TkC wr W3.heap.size w.heap.size w8.heap.size E1.heap.size y n m r kn xm bn (fnv 115) (clo2 113 g2 h2) w' := TkC.of ⟨_, hrow.out⟩
            (by rw [← ek]; exact hE.cell (hS2.cell (row_cell rK.out (kcells_at n (by omega))) (by simp only; omega)) (by simp only; omega)) (by rw [← ex]; exact hE.cell (hS2.cell (row_cell rW.out (xrow_at X m (by omega))) (by simp only; omega)) (by simp only; omega))
            (hE.cell (row_cell hT2.out rfl) (by simp only; omega)) (hE.cell (row_cell hT2.out rfl) (by simp only; omega)) (by rw [← eb]; exact hE.cell (row_cell hT2.out cb) (by simp only; omega))
          have cx : wr.cell? ⟨g2, 0, none⟩ = _ := hE.cell (hS2.cell x2 (ne7 r7.out x2)) (ne7 hy72.out (hS2.cell x2 (ne7 r7.out x2)))
          have cy : wr.cell? ⟨h2, 0, none⟩ = _ := hE.cell (hS2.cell y2 (ne7 r7.out y2)) (ne7 hy72.out (hS2.cell y2 (ne7 r7.out y2)))
          obtain ⟨F, eF⟩ : ∃ v, Fi n y.b y.c y.d = v := ⟨_, rfl⟩
          have HF := Hd.mk (show ∀ w', Ext wr w' → Calls Tryd.prog 115 #[.int .u32 y.b, .int .u32 y.c, .int .u32 y.d] w' (Ret w' (.int .u32 F)) from fun w' hw => by rw [← eF]; exact of2_c n (by omega) (by omega) _ _ _ hyU.b hyU.c hyU.d w')
          have HW := Hd.mk (show ∀ w', Ext wr w' → Calls Tryd.prog 113 #[.int .i64 n, .pointer (some ⟨g2, 0, none⟩), .pointer (some ⟨h2, 0, none⟩)] w' (Ret w' (.int .i64 m)) from fun w' hw => by rw [← em]; exact wdq_c n (by omega) _ _ (.inr (.inr (.inl ⟨by omega, by omega, rfl, rfl⟩))) _ _ w' (Ext.cell hw cx) (Ext.cell hw cy))
          obtain ⟨s1, e1⟩ : ∃ v, IntKind.u32.wrap (y.a + F) = v := ⟨_, rfl⟩
          obtain ⟨s2, e2⟩ : ∃ v, IntKind.u32.wrap (s1 + kn) = v := ⟨_, rfl⟩
          obtain ⟨s3, e3⟩ : ∃ v, IntKind.u32.wrap (s2 + xm) = v := ⟨_, rfl⟩
          obtain ⟨ρ, eρ⟩ : ∃ v, rotl s3 bn = v := ⟨_, rfl⟩
          obtain ⟨b', e4⟩ : ∃ v, IntKind.u32.wrap (y.b + ρ) = v := ⟨_, rfl⟩
          have hs3 : U s3 := by rw [← e3, IntKind.wrap_u32]; exact U_mod _
          have HR := Hd.mk (show ∀ w', Calls Tryd.prog 89 #[.int .u32 s3, .int .i64 bn] w' (Ret w' (.int .u32 ρ)) from fun w' => by rw [← eρ]; exact rotP_c _ _ hs3 (eb ▸ hbS) w')
          have Hst := Hd.mk (stp_of X n m y F kn xm bn s1 s2 s3 ρ b' eF ek em ex eb e1 e2 e3 eρ e4)
          clear eF ek em ex eb eρ er hbS cb
          go_upto_region 16 with fail
          refine wp_region_seq (fun w' => TkC wr W3.heap.size w.heap.size w8.heap.size E1.heap.size y n m r kn xm bn (fnv 115) (clo2 113 g2 h2) w') (by kernel_rfl) (by kernel_rfl) (by kernel_rfl) (hC _ (by repeat (first | exact Ext.refl _ | assumption | apply Ext.alloc | apply Ext.drew | apply Ext.drewN | apply Ext.bytes | apply Ext.iter | refine Ext.setCell ?_ (by simp; omega) _ | refine Ext.trans ?_ (by assumption)))) ?_
          repeat (first
            | (refine wpSeq_skip rfl ?_; (try simp only [Act.put, List.setIfInBounds_toArray, List.set_cons_zero, List.set_cons_succ]))
            | (apply wpSeq_still; exact rfl; exact rfl; (rintro w' ⟨hw', f0, f1, f2, f3, f4, f5, f6, f7, f8⟩; go_simp; first | done | exact rfl); (try simp only [Act.put, List.setIfInBounds_toArray, List.set_cons_zero, List.set_cons_succ])))
          refine wpSeq_busy rfl rfl ?_
          go_simp
          go_at_call 115
          refine (HF.out _ (by repeat (first | exact Ext.refl _ | assumption | apply Ext.alloc | apply Ext.drew | apply Ext.drewN | apply Ext.bytes | apply Ext.iter | refine Ext.setCell ?_ (by simp; omega) _ | refine Ext.trans ?_ (by assumption)))).mono ?_
          rintro e wa ⟨rfl, ha⟩
          refine ⟨_, rfl, hC _ (by repeat (first | exact Ext.refl _ | assumption | apply Ext.alloc | apply Ext.drew | apply Ext.drewN | apply Ext.bytes | apply Ext.iter | refine Ext.setCell ?_ (by simp; omega) _ | refine Ext.trans ?_ (by assumption))), ?_⟩
          (try simp only [Act.put, List.setIfInBounds_toArray, List.set_cons_zero, List.set_cons_succ])
          repeat (first
            | (refine wpSeq_skip rfl ?_; (try simp only [Act.put, List.setIfInBounds_toArray, List.set_cons_zero, List.set_cons_succ]))
            | (apply wpSeq_still; exact rfl; exact rfl; (rintro w' ⟨hw', f0, f1, f2, f3, f4, f5, f6, f7, f8⟩; go_simp; first | done | exact rfl); (try simp only [Act.put, List.setIfInBounds_toArray, List.set_cons_zero, List.set_cons_succ])))
          refine wpSeq_busy rfl rfl ?_
          go_simp
          go_at_call 113
          refine (HW.out _ (by repeat (first | exact Ext.refl _ | assumption | apply Ext.alloc | apply Ext.drew | apply Ext.drewN | apply Ext.bytes | apply Ext.iter | refine Ext.setCell ?_ (by simp; omega) _ | refine Ext.trans ?_ (by assumption)))).mono ?_
          rintro e wb ⟨rfl, hb⟩
          refine ⟨_, rfl, hC _ (by repeat (first | exact Ext.refl _ | assumption | apply Ext.alloc | apply Ext.drew | apply Ext.drewN | apply Ext.bytes | apply Ext.iter | refine Ext.setCell ?_ (by simp; omega) _ | refine Ext.trans ?_ (by assumption))), ?_⟩
          (try simp only [Act.put, List.setIfInBounds_toArray, List.set_cons_zero, List.set_cons_succ])
          repeat (first
            | (refine wpSeq_skip rfl ?_; (try simp only [Act.put, List.setIfInBounds_toArray, List.set_cons_zero, List.set_cons_succ]))
            | (apply wpSeq_still; exact rfl; exact rfl; (rintro w' ⟨hw', f0, f1, f2, f3, f4, f5, f6, f7, f8⟩; go_simp; first | done | exact rfl); (try simp only [Act.put, List.setIfInBounds_toArray, List.set_cons_zero, List.set_cons_succ])))
          refine wpSeq_nil ?_
          intro _
          go_upto_region 17 with fail
          refine wp_region_last (fun w' => TkC wr W3.heap.size w.heap.size w8.heap.size E1.heap.size y n m r kn xm bn (fnv 115) (clo2 113 g2 h2) w') (by kernel_rfl) (by kernel_rfl) (by kernel_rfl) (by kernel_rfl) (hC _ (by repeat (first | exact Ext.refl _ | assumption | apply Ext.alloc | apply Ext.drew | apply Ext.drewN | apply Ext.bytes | apply Ext.iter | refine Ext.setCell ?_ (by simp; omega) _ | refine Ext.trans ?_ (by assumption)))) ?_
          repeat (first
            | (refine wpLast_skip rfl ?_; (try simp only [Act.put, List.setIfInBounds_toArray, List.set_cons_zero, List.set_cons_succ]))
            | (apply wpLast_still; exact rfl; exact rfl; (rintro w' ⟨hw', f0, f1, f2, f3, f4, f5, f6, f7, f8⟩; go_simp; first | done | exact rfl); (try simp only [Act.put, List.setIfInBounds_toArray, List.set_cons_zero, List.set_cons_succ])))
          refine wpLast_busy rfl rfl ?_
          go_simp
          go_at_call 89
          refine (HR.out _).mono ?_
          rintro e wc ⟨rfl, hc⟩
          refine ⟨_, rfl, hC _ (by repeat (first | exact Ext.refl _ | assumption | apply Ext.alloc | apply Ext.drew | apply Ext.drewN | apply Ext.bytes | apply Ext.iter | refine Ext.setCell ?_ (by simp; omega) _ | refine Ext.trans ?_ (by assumption))), ?_⟩
          (try simp only [Act.put, List.setIfInBounds_toArray, List.set_cons_zero, List.set_cons_succ])
          repeat (first
            | (refine wpLast_skip rfl ?_; (try simp only [Act.put, List.setIfInBounds_toArray, List.set_cons_zero, List.set_cons_succ]))
            | (apply wpLast_still; exact rfl; exact rfl; (rintro w' ⟨hw', f0, f1, f2, f3, f4, f5, f6, f7, f8⟩; go_simp; first | done | exact rfl); (try simp only [Act.put, List.setIfInBounds_toArray, List.set_cons_zero, List.set_cons_succ])))
          have hEc : Ext wr wc := (by repeat (first | exact Ext.refl _ | assumption | apply Ext.alloc | apply Ext.drew | apply Ext.drewN | apply Ext.bytes | apply Ext.iter | refine Ext.setCell ?_ (by simp; omega) _ | refine Ext.trans ?_ (by assumption)))
          refine wpLast_last rfl rfl (busy_store_row _ _ _ rfl W3.heap.size (q32L ⟨y.d, b', y.b, y.c⟩) rfl rfl _ _ (Ext.blk hEc hrow.out) (by kernel_rfl) rfl (by simp [q32L, Value.oneCell']) trivial ?_)
          refine wpLast_nil fun wf hwf => ?_
          have hEf : Exts (· = W3.heap.size) Z2 wf := by rw [hwf.out]; exact (hE.then hEc).setRow (.inl rfl) _
          have hrf := Hd.mk (show wf.heap[W3.heap.size]? = some (.cells (q32L (stps X (n + 1) x)) 85 (0, 0)) by rw [hwf.out, Hs.out, Hst.out]; exact setRow_heap _ _ _ _ _ _ (Ext.blk hEc hrow.out))
          clear hwf
          go_wp2
          go_roundw
          case rel => exact ⟨k + 1, by omega, by go_num, hEf, ⟨by have := hrf.out; have := Hn.out; rwa [show 32 + (k + 1) = n + 1 from by omega]⟩⟩
          case measure => simp [intOf]; omega
        have h16 : k = 16 := by omega
        subst h16
        clear hlt hk
        obtain ⟨E2, rfl⟩ : ∃ E : World, E = wr := ⟨_, rfl⟩
        have hF2 : Exts (· = W3.heap.size) w9 E2 := hS2.trans hE
        have hR72 := hrow
        clear hrow hE
        go_wp2_with fail
        rw [rounds_succ]
        go_wp2_with fail
        refine wp_name fun Z3 hZ3 => ?_
        have hA3 : Ext E2 Z3 := by rw [hZ3.out]; exact (by repeat (first | exact Ext.refl _ | assumption | apply Ext.alloc | apply Ext.drew | apply Ext.drewN | apply Ext.bytes | apply Ext.iter | refine Ext.setCell ?_ (by simp; omega) _ | refine Ext.trans ?_ (by assumption)))
        have hT3 := Hd.mk (show Z3.heap[E2.heap.size]? = some (.cells #[fnv 116, clo2 113 g3 h3, .int .i64 6, .int .i64 10, .int .i64 15, .int .i64 21] 128 (0, 0)) by rw [hZ3.out]; exact heap_alloc_new _ _)
        have hS3 : Exts (· = W3.heap.size) w9 Z3 := Exts.then hF2 hA3
        have hy73 := Hd.mk (Ext.blk hA3 hR72.out)
        have lT3 : E2.heap.size < Z3.heap.size := row_lt hT3.out
        have l73 : W3.heap.size < E2.heap.size := row_lt hR72.out
        clear hZ3
        go_loopw [38] (fun j wr => ∃ k : Nat, k ≤ 16 ∧ j = .int .i64 k ∧ Exts (· = W3.heap.size) Z3 wr ∧ Hd (wr.heap[W3.heap.size]? = some (.cells (q32L (stps X (48 + k) x)) 85 (0, 0)))) (fun j _ => 16 - (intOf j).toNat)
        case atStart => exact ⟨0, by omega, rfl, Exts.refl _, ⟨hy73.out⟩⟩
        case round =>
          obtain ⟨k, hk, rfl, hE, hrow⟩ := hrel
          by_cases hlt : k < 16
          · have hlti : (k : Int) < 16 := by omega
            obtain ⟨n, en⟩ : ∃ n : Nat, 48 + (k : Int) = n := ⟨48 + k, by omega⟩
            have hn : 48 + k = n := by omega
            rw [hn] at hrow
            have Hn := Hd.mk hn
            clear hn
            have hnl : n < 64 := by have := Hn.out; omega
            have hng : 48 ≤ n := by have := Hn.out; omega
            have hnu : n < 64 := by have := Hn.out; omega
            have hyU : (stps X n x).U := stps_U hx
            have Hs := Hd.mk (show stps X (n + 1) x = stp X n (stps X n x) from rfl)
            generalize stps X n x = y at *
            have hm : wi n < 16 := wi_lt n (by omega)
            have hbS : byS (byT n) := byT_S n (by omega)
            obtain ⟨m, em⟩ : ∃ m, wi n = m := ⟨_, rfl⟩
            obtain ⟨xm, ex⟩ : ∃ v, X m = v := ⟨_, rfl⟩
            obtain ⟨kn, ek⟩ : ∃ v, K n = v := ⟨_, rfl⟩
            obtain ⟨bn, eb⟩ : ∃ v, byT n = v := ⟨_, rfl⟩
            obtain ⟨r, er⟩ : ∃ v, k % 4 = v := ⟨_, rfl⟩
            have hr : r < 4 := by omega
            have hri : (r : Int) < 4 := by omega
            have hmi : (m : Int) < 16 := by omega
            have hni : (n : Int) < 64 := by omega
            have htm : (k : Int).tmod 4 = (r : Int) := by rw [Int.tmod_eq_emod_of_nonneg (by omega)]; omega
            have cb := by_at3 n r (by omega) (by have := Hn.out; omega) (a := fnv 116) (b := clo2 113 g3 h3)
            have hC : ∀ w', Ext wr w' → TkC wr W3.heap.size w.heap.size w8.heap.size E2.heap.size y n m r kn xm bn (fnv 116) (clo2 113 g3 h3) w' := TkC.of ⟨_, hrow.out⟩
              (by rw [← ek]; exact hE.cell (hS3.cell (row_cell rK.out (kcells_at n (by omega))) (by simp only; omega)) (by simp only; omega)) (by rw [← ex]; exact hE.cell (hS3.cell (row_cell rW.out (xrow_at X m (by omega))) (by simp only; omega)) (by simp only; omega))
              (hE.cell (row_cell hT3.out rfl) (by simp only; omega)) (hE.cell (row_cell hT3.out rfl) (by simp only; omega)) (by rw [← eb]; exact hE.cell (row_cell hT3.out cb) (by simp only; omega))
            have cx : wr.cell? ⟨g3, 0, none⟩ = _ := hE.cell (hS3.cell x3 (ne7 r7.out x3)) (ne7 hy73.out (hS3.cell x3 (ne7 r7.out x3)))
            have cy : wr.cell? ⟨h3, 0, none⟩ = _ := hE.cell (hS3.cell y3 (ne7 r7.out y3)) (ne7 hy73.out (hS3.cell y3 (ne7 r7.out y3)))
            obtain ⟨F, eF⟩ : ∃ v, Fi n y.b y.c y.d = v := ⟨_, rfl⟩
            have HF := Hd.mk (show ∀ w', Ext wr w' → Calls Tryd.prog 116 #[.int .u32 y.b, .int .u32 y.c, .int .u32 y.d] w' (Ret w' (.int .u32 F)) from fun w' hw => by rw [← eF]; exact of3_c n (by omega) _ _ _ hyU.b hyU.c hyU.d w')
            have HW := Hd.mk (show ∀ w', Ext wr w' → Calls Tryd.prog 113 #[.int .i64 n, .pointer (some ⟨g3, 0, none⟩), .pointer (some ⟨h3, 0, none⟩)] w' (Ret w' (.int .i64 m)) from fun w' hw => by rw [← em]; exact wdq_c n (by omega) _ _ (.inr (.inr (.inr ⟨by omega, rfl, rfl⟩))) _ _ w' (Ext.cell hw cx) (Ext.cell hw cy))
            obtain ⟨s1, e1⟩ : ∃ v, IntKind.u32.wrap (y.a + F) = v := ⟨_, rfl⟩
            obtain ⟨s2, e2⟩ : ∃ v, IntKind.u32.wrap (s1 + kn) = v := ⟨_, rfl⟩
            obtain ⟨s3, e3⟩ : ∃ v, IntKind.u32.wrap (s2 + xm) = v := ⟨_, rfl⟩
            obtain ⟨ρ, eρ⟩ : ∃ v, rotl s3 bn = v := ⟨_, rfl⟩
            obtain ⟨b', e4⟩ : ∃ v, IntKind.u32.wrap (y.b + ρ) = v := ⟨_, rfl⟩
            have hs3 : U s3 := by rw [← e3, IntKind.wrap_u32]; exact U_mod _
            have HR := Hd.mk (show ∀ w', Calls Tryd.prog 89 #[.int .u32 s3, .int .i64 bn] w' (Ret w' (.int .u32 ρ)) from fun w' => by rw [← eρ]; exact rotP_c _ _ hs3 (eb ▸ hbS) w')
            have Hst := Hd.mk (stp_of X n m y F kn xm bn s1 s2 s3 ρ b' eF ek em ex eb e1 e2 e3 eρ e4)
            clear eF ek em ex eb eρ er hbS cb
            go_upto_region 16 with fail
            refine wp_region_seq (fun w' => TkC wr W3.heap.size w.heap.size w8.heap.size E2.heap.size y n m r kn xm bn (fnv 116) (clo2 113 g3 h3) w') (by kernel_rfl) (by kernel_rfl) (by kernel_rfl) (hC _ (by repeat (first | exact Ext.refl _ | assumption | apply Ext.alloc | apply Ext.drew | apply Ext.drewN | apply Ext.bytes | apply Ext.iter | refine Ext.setCell ?_ (by simp; omega) _ | refine Ext.trans ?_ (by assumption)))) ?_
            repeat (first
              | (refine wpSeq_skip rfl ?_; (try simp only [Act.put, List.setIfInBounds_toArray, List.set_cons_zero, List.set_cons_succ]))
              | (apply wpSeq_still; exact rfl; exact rfl; (rintro w' ⟨hw', f0, f1, f2, f3, f4, f5, f6, f7, f8⟩; go_simp; first | done | exact rfl); (try simp only [Act.put, List.setIfInBounds_toArray, List.set_cons_zero, List.set_cons_succ])))
            refine wpSeq_busy rfl rfl ?_
            go_simp
            go_at_call 116
            refine (HF.out _ (by repeat (first | exact Ext.refl _ | assumption | apply Ext.alloc | apply Ext.drew | apply Ext.drewN | apply Ext.bytes | apply Ext.iter | refine Ext.setCell ?_ (by simp; omega) _ | refine Ext.trans ?_ (by assumption)))).mono ?_
            rintro e wa ⟨rfl, ha⟩
            refine ⟨_, rfl, hC _ (by repeat (first | exact Ext.refl _ | assumption | apply Ext.alloc | apply Ext.drew | apply Ext.drewN | apply Ext.bytes | apply Ext.iter | refine Ext.setCell ?_ (by simp; omega) _ | refine Ext.trans ?_ (by assumption))), ?_⟩
            (try simp only [Act.put, List.setIfInBounds_toArray, List.set_cons_zero, List.set_cons_succ])
            repeat (first
              | (refine wpSeq_skip rfl ?_; (try simp only [Act.put, List.setIfInBounds_toArray, List.set_cons_zero, List.set_cons_succ]))
              | (apply wpSeq_still; exact rfl; exact rfl; (rintro w' ⟨hw', f0, f1, f2, f3, f4, f5, f6, f7, f8⟩; go_simp; first | done | exact rfl); (try simp only [Act.put, List.setIfInBounds_toArray, List.set_cons_zero, List.set_cons_succ])))
            refine wpSeq_busy rfl rfl ?_
            go_simp
            go_at_call 113
            refine (HW.out _ (by repeat (first | exact Ext.refl _ | assumption | apply Ext.alloc | apply Ext.drew | apply Ext.drewN | apply Ext.bytes | apply Ext.iter | refine Ext.setCell ?_ (by simp; omega) _ | refine Ext.trans ?_ (by assumption)))).mono ?_
            rintro e wb ⟨rfl, hb⟩
            refine ⟨_, rfl, hC _ (by repeat (first | exact Ext.refl _ | assumption | apply Ext.alloc | apply Ext.drew | apply Ext.drewN | apply Ext.bytes | apply Ext.iter | refine Ext.setCell ?_ (by simp; omega) _ | refine Ext.trans ?_ (by assumption))), ?_⟩
            (try simp only [Act.put, List.setIfInBounds_toArray, List.set_cons_zero, List.set_cons_succ])
            repeat (first
              | (refine wpSeq_skip rfl ?_; (try simp only [Act.put, List.setIfInBounds_toArray, List.set_cons_zero, List.set_cons_succ]))
              | (apply wpSeq_still; exact rfl; exact rfl; (rintro w' ⟨hw', f0, f1, f2, f3, f4, f5, f6, f7, f8⟩; go_simp; first | done | exact rfl); (try simp only [Act.put, List.setIfInBounds_toArray, List.set_cons_zero, List.set_cons_succ])))
            refine wpSeq_nil ?_
            intro _
            go_upto_region 17 with fail
            refine wp_region_last (fun w' => TkC wr W3.heap.size w.heap.size w8.heap.size E2.heap.size y n m r kn xm bn (fnv 116) (clo2 113 g3 h3) w') (by kernel_rfl) (by kernel_rfl) (by kernel_rfl) (by kernel_rfl) (hC _ (by repeat (first | exact Ext.refl _ | assumption | apply Ext.alloc | apply Ext.drew | apply Ext.drewN | apply Ext.bytes | apply Ext.iter | refine Ext.setCell ?_ (by simp; omega) _ | refine Ext.trans ?_ (by assumption)))) ?_
            repeat (first
              | (refine wpLast_skip rfl ?_; (try simp only [Act.put, List.setIfInBounds_toArray, List.set_cons_zero, List.set_cons_succ]))
              | (apply wpLast_still; exact rfl; exact rfl; (rintro w' ⟨hw', f0, f1, f2, f3, f4, f5, f6, f7, f8⟩; go_simp; first | done | exact rfl); (try simp only [Act.put, List.setIfInBounds_toArray, List.set_cons_zero, List.set_cons_succ])))
            refine wpLast_busy rfl rfl ?_
            go_simp
            go_at_call 89
            refine (HR.out _).mono ?_
            rintro e wc ⟨rfl, hc⟩
            refine ⟨_, rfl, hC _ (by repeat (first | exact Ext.refl _ | assumption | apply Ext.alloc | apply Ext.drew | apply Ext.drewN | apply Ext.bytes | apply Ext.iter | refine Ext.setCell ?_ (by simp; omega) _ | refine Ext.trans ?_ (by assumption))), ?_⟩
            (try simp only [Act.put, List.setIfInBounds_toArray, List.set_cons_zero, List.set_cons_succ])
            repeat (first
              | (refine wpLast_skip rfl ?_; (try simp only [Act.put, List.setIfInBounds_toArray, List.set_cons_zero, List.set_cons_succ]))
              | (apply wpLast_still; exact rfl; exact rfl; (rintro w' ⟨hw', f0, f1, f2, f3, f4, f5, f6, f7, f8⟩; go_simp; first | done | exact rfl); (try simp only [Act.put, List.setIfInBounds_toArray, List.set_cons_zero, List.set_cons_succ])))
            have hEc : Ext wr wc := (by repeat (first | exact Ext.refl _ | assumption | apply Ext.alloc | apply Ext.drew | apply Ext.drewN | apply Ext.bytes | apply Ext.iter | refine Ext.setCell ?_ (by simp; omega) _ | refine Ext.trans ?_ (by assumption)))
            refine wpLast_last rfl rfl (busy_store_row _ _ _ rfl W3.heap.size (q32L ⟨y.d, b', y.b, y.c⟩) rfl rfl _ _ (Ext.blk hEc hrow.out) (by kernel_rfl) rfl (by simp [q32L, Value.oneCell']) trivial ?_)
            refine wpLast_nil fun wf hwf => ?_
            have hEf : Exts (· = W3.heap.size) Z3 wf := by rw [hwf.out]; exact (hE.then hEc).setRow (.inl rfl) _
            have hrf := Hd.mk (show wf.heap[W3.heap.size]? = some (.cells (q32L (stps X (n + 1) x)) 85 (0, 0)) by rw [hwf.out, Hs.out, Hst.out]; exact setRow_heap _ _ _ _ _ _ (Ext.blk hEc hrow.out))
            clear hwf
            go_wp2
            go_roundw
            case rel => exact ⟨k + 1, by omega, by go_num, hEf, ⟨by have := hrf.out; have := Hn.out; rwa [show 48 + (k + 1) = n + 1 from by omega]⟩⟩
            case measure => simp [intOf]; omega
          have h16 : k = 16 := by omega
          subst h16
          clear hlt hk
          obtain ⟨E3, rfl⟩ : ∃ E : World, E = wr := ⟨_, rfl⟩
          have hF3 : Exts (· = W3.heap.size) w9 E3 := hS3.trans hE
          have hR73 := hrow
          clear hrow hE
          go_wp2_with fail
          rw [rounds_succ]
          go_wp2_with fail
          have gF : E3.heap[g]? = some (.cells (q32L x) t (0, 0)) := hF3.blk rg.out (by omega)
          obtain ⟨y, ey⟩ : ∃ y, stps X 64 x = y := ⟨_, rfl⟩
          have yF : E3.heap[W3.heap.size]? = some (.cells (q32L y) 85 (0, 0)) := by rw [← ey]; exact hR73.out
          have hX : Ext w E3 := Exts.ext (Exts.trans (Ext.exts hEw) hF3) (fun k (hk : k = W3.heap.size) => by omega)
          have hgy : g ≠ W3.heap.size := by omega
          have hfin := Hd.mk (show blk X x = add4 x y by rw [← ey]; rfl)
          clear ey
          clear j0 j1 j2 j3 xc x0 y0 x1 y1 x2 y2 x3 y3 hEw r7 rW rg rK l2 hA0 hT0 hS0 hy70 lT0 l70 hF0 hR70 hA1 hT1 hS1 hy71 lT1 l71 hF1 hR71 hA2 hT2 hS2 hy72 lT2 l72 hF2 hR72 hA3 hT3 hS3 hy73 lT3 l73 hF3 hR73 hgx hq3 hEy hb8 l1
          have Hg0 := Hd.mk gF
          have Hy0 := Hd.mk yF
          have HX0 := Exts.refl (S := (· = g)) E3
          clear gF yF
          obtain ⟨G0, rfl⟩ : ∃ E : World, E = E3 := ⟨_, rfl⟩
          refine wp_loop_rounds 5 ?_
          rw [rounds_succ]
          go_upto_region 23 with fail
          obtain ⟨z0, ez0⟩ : ∃ v, IntKind.u32.wrap (x.a + y.a) = v := ⟨_, rfl⟩
          have hC0 : ∀ w', Ext G0 w' → Ext G0 w' ∧ w'.cell? ⟨g, 0, none⟩ = some (.int .u32 x.a) ∧ w'.cell? ⟨W3.heap.size, 0, none⟩ = some (.int .u32 y.a) := fun w' h => ⟨h, Ext.cell h (row_cell Hg0.out rfl), Ext.cell h (row_cell Hy0.out rfl)⟩
          refine wp_region_last (fun w' => Ext G0 w' ∧ w'.cell? ⟨g, 0, none⟩ = some (.int .u32 x.a) ∧ w'.cell? ⟨W3.heap.size, 0, none⟩ = some (.int .u32 y.a)) (by kernel_rfl) (by kernel_rfl) (by kernel_rfl) (by kernel_rfl) (hC0 _ (by repeat (first | exact Ext.refl _ | assumption | apply Ext.alloc | apply Ext.drew | apply Ext.drewN | apply Ext.bytes | apply Ext.iter | refine Ext.setCell ?_ (by simp; omega) _ | refine Ext.trans ?_ (by assumption)))) ?_
          repeat (first
            | (refine wpLast_skip rfl ?_; (try simp only [Act.put, List.setIfInBounds_toArray, List.set_cons_zero, List.set_cons_succ]))
            | (apply wpLast_still; exact rfl; exact rfl; (rintro w' ⟨hw', f0, f1⟩; go_simp; first | done | exact rfl); (try simp only [Act.put, List.setIfInBounds_toArray, List.set_cons_zero, List.set_cons_succ])))
          refine wpLast_last rfl rfl (busy_store_cell _ _ _ rfl g 0 (.int .u32 z0) rfl rfl t _ (show G0.drew.heap[g]? = _ from Hg0.out) (by exact Nat.le_of_ble_eq_true rfl) (by kernel_rfl) rfl rfl trivial ?_)
          refine wpLast_nil fun G1 hG1 => ?_
          have Hg1 := Hd.mk (show G1.heap[g]? = some (.cells #[.int .u32 z0, .int .u32 x.b, .int .u32 x.c, .int .u32 x.d] t (0, 0)) by rw [hG1.out]; exact setRow_heap _ _ _ _ _ _ (show G0.drew.heap[g]? = _ from Hg0.out))
          have Hy1 := Hd.mk (show G1.heap[W3.heap.size]? = some (.cells (q32L y) 85 (0, 0)) by rw [hG1.out]; exact (setRow_other _ _ _ _ (Ne.symm hgy)).trans Hy0.out)
          have HX1 : Exts (· = g) G0 G1 := by rw [hG1.out]; exact (HX0.drew).setRow (.inl rfl) _
          have He0 := Hd.mk ez0
          clear hG1 hC0 ez0
          go_wp2_with fail
          rw [rounds_succ]
          go_upto_region 23 with fail
          obtain ⟨z1, ez1⟩ : ∃ v, IntKind.u32.wrap (x.b + y.b) = v := ⟨_, rfl⟩
          have hC1 : ∀ w', Ext G1 w' → Ext G1 w' ∧ w'.cell? ⟨g, 1, none⟩ = some (.int .u32 x.b) ∧ w'.cell? ⟨W3.heap.size, 1, none⟩ = some (.int .u32 y.b) := fun w' h => ⟨h, Ext.cell h (row_cell Hg1.out rfl), Ext.cell h (row_cell Hy1.out rfl)⟩
          refine wp_region_last (fun w' => Ext G1 w' ∧ w'.cell? ⟨g, 1, none⟩ = some (.int .u32 x.b) ∧ w'.cell? ⟨W3.heap.size, 1, none⟩ = some (.int .u32 y.b)) (by kernel_rfl) (by kernel_rfl) (by kernel_rfl) (by kernel_rfl) (hC1 _ (by repeat (first | exact Ext.refl _ | assumption | apply Ext.alloc | apply Ext.drew | apply Ext.drewN | apply Ext.bytes | apply Ext.iter | refine Ext.setCell ?_ (by simp; omega) _ | refine Ext.trans ?_ (by assumption)))) ?_
          repeat (first
            | (refine wpLast_skip rfl ?_; (try simp only [Act.put, List.setIfInBounds_toArray, List.set_cons_zero, List.set_cons_succ]))
            | (apply wpLast_still; exact rfl; exact rfl; (rintro w' ⟨hw', f0, f1⟩; go_simp; first | done | exact rfl); (try simp only [Act.put, List.setIfInBounds_toArray, List.set_cons_zero, List.set_cons_succ])))
          refine wpLast_last rfl rfl (busy_store_cell _ _ _ rfl g 1 (.int .u32 z1) rfl rfl t _ (show G1.drew.heap[g]? = _ from Hg1.out) (by exact Nat.le_of_ble_eq_true rfl) (by kernel_rfl) rfl rfl trivial ?_)
          refine wpLast_nil fun G2 hG2 => ?_
          have Hg2 := Hd.mk (show G2.heap[g]? = some (.cells #[.int .u32 z0, .int .u32 z1, .int .u32 x.c, .int .u32 x.d] t (0, 0)) by rw [hG2.out]; exact setRow_heap _ _ _ _ _ _ (show G1.drew.heap[g]? = _ from Hg1.out))
          have Hy2 := Hd.mk (show G2.heap[W3.heap.size]? = some (.cells (q32L y) 85 (0, 0)) by rw [hG2.out]; exact (setRow_other _ _ _ _ (Ne.symm hgy)).trans Hy1.out)
          have HX2 : Exts (· = g) G0 G2 := by rw [hG2.out]; exact (HX1.drew).setRow (.inl rfl) _
          have He1 := Hd.mk ez1
          clear hG2 hC1 ez1
          go_wp2_with fail
          rw [rounds_succ]
          go_upto_region 23 with fail
          obtain ⟨z2, ez2⟩ : ∃ v, IntKind.u32.wrap (x.c + y.c) = v := ⟨_, rfl⟩
          have hC2 : ∀ w', Ext G2 w' → Ext G2 w' ∧ w'.cell? ⟨g, 2, none⟩ = some (.int .u32 x.c) ∧ w'.cell? ⟨W3.heap.size, 2, none⟩ = some (.int .u32 y.c) := fun w' h => ⟨h, Ext.cell h (row_cell Hg2.out rfl), Ext.cell h (row_cell Hy2.out rfl)⟩
          refine wp_region_last (fun w' => Ext G2 w' ∧ w'.cell? ⟨g, 2, none⟩ = some (.int .u32 x.c) ∧ w'.cell? ⟨W3.heap.size, 2, none⟩ = some (.int .u32 y.c)) (by kernel_rfl) (by kernel_rfl) (by kernel_rfl) (by kernel_rfl) (hC2 _ (by repeat (first | exact Ext.refl _ | assumption | apply Ext.alloc | apply Ext.drew | apply Ext.drewN | apply Ext.bytes | apply Ext.iter | refine Ext.setCell ?_ (by simp; omega) _ | refine Ext.trans ?_ (by assumption)))) ?_
          repeat (first
            | (refine wpLast_skip rfl ?_; (try simp only [Act.put, List.setIfInBounds_toArray, List.set_cons_zero, List.set_cons_succ]))
            | (apply wpLast_still; exact rfl; exact rfl; (rintro w' ⟨hw', f0, f1⟩; go_simp; first | done | exact rfl); (try simp only [Act.put, List.setIfInBounds_toArray, List.set_cons_zero, List.set_cons_succ])))
          refine wpLast_last rfl rfl (busy_store_cell _ _ _ rfl g 2 (.int .u32 z2) rfl rfl t _ (show G2.drew.heap[g]? = _ from Hg2.out) (by exact Nat.le_of_ble_eq_true rfl) (by kernel_rfl) rfl rfl trivial ?_)
          refine wpLast_nil fun G3 hG3 => ?_
          have Hg3 := Hd.mk (show G3.heap[g]? = some (.cells #[.int .u32 z0, .int .u32 z1, .int .u32 z2, .int .u32 x.d] t (0, 0)) by rw [hG3.out]; exact setRow_heap _ _ _ _ _ _ (show G2.drew.heap[g]? = _ from Hg2.out))
          have Hy3 := Hd.mk (show G3.heap[W3.heap.size]? = some (.cells (q32L y) 85 (0, 0)) by rw [hG3.out]; exact (setRow_other _ _ _ _ (Ne.symm hgy)).trans Hy2.out)
          have HX3 : Exts (· = g) G0 G3 := by rw [hG3.out]; exact (HX2.drew).setRow (.inl rfl) _
          have He2 := Hd.mk ez2
          clear hG3 hC2 ez2
          go_wp2_with fail
          rw [rounds_succ]
          go_upto_region 23 with fail
          obtain ⟨z3, ez3⟩ : ∃ v, IntKind.u32.wrap (x.d + y.d) = v := ⟨_, rfl⟩
          have hC3 : ∀ w', Ext G3 w' → Ext G3 w' ∧ w'.cell? ⟨g, 3, none⟩ = some (.int .u32 x.d) ∧ w'.cell? ⟨W3.heap.size, 3, none⟩ = some (.int .u32 y.d) := fun w' h => ⟨h, Ext.cell h (row_cell Hg3.out rfl), Ext.cell h (row_cell Hy3.out rfl)⟩
          refine wp_region_last (fun w' => Ext G3 w' ∧ w'.cell? ⟨g, 3, none⟩ = some (.int .u32 x.d) ∧ w'.cell? ⟨W3.heap.size, 3, none⟩ = some (.int .u32 y.d)) (by kernel_rfl) (by kernel_rfl) (by kernel_rfl) (by kernel_rfl) (hC3 _ (by repeat (first | exact Ext.refl _ | assumption | apply Ext.alloc | apply Ext.drew | apply Ext.drewN | apply Ext.bytes | apply Ext.iter | refine Ext.setCell ?_ (by simp; omega) _ | refine Ext.trans ?_ (by assumption)))) ?_
          repeat (first
            | (refine wpLast_skip rfl ?_; (try simp only [Act.put, List.setIfInBounds_toArray, List.set_cons_zero, List.set_cons_succ]))
            | (apply wpLast_still; exact rfl; exact rfl; (rintro w' ⟨hw', f0, f1⟩; go_simp; first | done | exact rfl); (try simp only [Act.put, List.setIfInBounds_toArray, List.set_cons_zero, List.set_cons_succ])))
          refine wpLast_last rfl rfl (busy_store_cell _ _ _ rfl g 3 (.int .u32 z3) rfl rfl t _ (show G3.drew.heap[g]? = _ from Hg3.out) (by exact Nat.le_of_ble_eq_true rfl) (by kernel_rfl) rfl rfl trivial ?_)
          refine wpLast_nil fun G4 hG4 => ?_
          have Hg4 := Hd.mk (show G4.heap[g]? = some (.cells #[.int .u32 z0, .int .u32 z1, .int .u32 z2, .int .u32 z3] t (0, 0)) by rw [hG4.out]; exact setRow_heap _ _ _ _ _ _ (show G3.drew.heap[g]? = _ from Hg3.out))
          have Hy4 := Hd.mk (show G4.heap[W3.heap.size]? = some (.cells (q32L y) 85 (0, 0)) by rw [hG4.out]; exact (setRow_other _ _ _ _ (Ne.symm hgy)).trans Hy3.out)
          have HX4 : Exts (· = g) G0 G4 := by rw [hG4.out]; exact (HX3.drew).setRow (.inl rfl) _
          have He3 := Hd.mk ez3
          clear hG4 hC3 ez3
          go_wp2_with fail
          rw [rounds_succ]
          go_wp2_with fail
          refine bodyPost_ret (results_none rfl _ _ _) rfl ⟨⟨_, rfl⟩, ?_, (Ext.exts hX).trans HX4⟩
          rw [Hg4.out, hfin.out]
          have w0 := He0.out
          have w1 := He1.out
          have w2 := He2.out
          have w3 := He3.out
          rw [IntKind.wrap_u32] at w0 w1 w2 w3
          unfold q32L add4
          rw [w0, w1, w2, w3]
end Go.Proofs.YtimecmleaeimkaaDoor
