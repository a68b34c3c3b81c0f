/- The statements' own helpers: is, fails, works. -/
import Derived.Test.YtimecmleaeimkaaDoorDigO
import Derived.Test.YtimecmleaeimkaaDoorDigN
namespace Go.Proofs.YtimecmleaeimkaaDoor
open Go.RowKit
set_option linter.unusedVariables false

section
variable {P : Program} {ops : Array Oper} {rest : List Oper} {o : Oper} {a : Act} {w : World} {Q : Exit → Act → World → Prop}
theorem wpList_wanted (hw : Region.wanted o (yielded ops a.tmps) = true)
    (h : ∀ K : Act → World → Prop, (∀ a w, wpList P ops Q rest a w → K a w) → o.wp P a w K Q) : wpList P ops Q (o :: rest) a w :=
  wpList_step fun K hK => by rw [if_pos hw]; exact h K hK
theorem wpList_load_row_w (hw : Region.wanted o (yielded ops a.tmps) = true) (ty : TypeId) (x : Operand) (ho : o.op = .load ty x)
    (g : Nat) (hx : a.eval x = .pointer (some ⟨g, 0, none⟩)) (t : TypeId) (cs : Array Value) (fr : Nat × Nat) (d : TypeDesc) (hg : w.heap[g]? = some (.cells cs t fr))
    (hu : P.underlying ty = some d) (hd : (match d with | .struct _ | .array _ _ => true | _ => false) = true) (hi : (P.info? ty).map (·.size) = some cs.size)
    (h : wpList P ops Q rest (a.put o.dst (.agg cs)) w) : wpList P ops Q (o :: rest) a w :=
  wpList_wanted hw fun _ hK => wp_load_row ty x ho g hx t cs fr d hg hu hd hi (hK _ _ h)
end
/-- Sixteen octets by a rule, as bytes. -/
def fb (f : Nat → Int) : ByteArray := strOfNums ((List.range 16).map f)
theorem fb_size (f : Nat → Int) : (fb f).size = 16 := by unfold fb; rw [strOfNums_size]; simp
theorem fb_at (f : Nat → Int) (hf : ∀ j, j < 16 → 0 ≤ f j ∧ f j < 256) (j : Nat) (hj : j < 16) : byteAt (fb f) j = f j := by
  have h := hf j hj
  rw [← byteAt_eq (fb f) j (by rw [fb_size]; exact hj)]
  have : (fb f)[j]'(by rw [fb_size]; exact hj) = UInt8.ofNat (f j).toNat := by
    show (fb f).data[j]'_ = _
    unfold fb strOfNums
    simp
  rw [this, UInt8.toNat_ofNat_of_lt' (by show (f j).toNat < 256; omega)]
  omega
theorem ob_fb (f : Nat → Int) (hf : ∀ j, j < 16 → 0 ≤ f j ∧ f j < 256) : ob (fb f) = rowF f := by
  rw [ob_rowF _ (fb_size f)]
  exact rowF_ext fun j hj => fb_at f hf j hj
theorem hexF_c (f : Nat → Int) (hf : ∀ j, j < 16 → 0 ≤ f j ∧ f j < 256) (w : World) : Calls Tryd.prog 18 #[.agg (rowF f)] w (Ret w (.string (hexS (fb f)))) := by
  rw [← ob_fb f hf]; exact hexP_c _ (fb_size f) w
def zF : Nat → Int := fun _ => 0
theorem zF_bd : ∀ j, j < 16 → 0 ≤ zF j ∧ zF j < 256 := fun j _ => by unfold zF; omega
def sumF (s : ByteArray) : Nat → Int := if 65536 < s.size then zF else oc (digS (fin s s.size) begin4)
theorem oc_bd (y : Q4) (j : Nat) : 0 ≤ oc y j ∧ oc y j < 256 := by unfold oc; omega
theorem trow_rowF (y : Q4) : trow y 16 = rowF (oc y) := by
  unfold trow rowF
  rfl
theorem sumF_bd (s : ByteArray) : ∀ j, j < 16 → 0 ≤ sumF s j ∧ sumF s j < 256 := fun j hj => by
  unfold sumF; split
  · exact zF_bd j hj
  · exact oc_bd _ j
theorem sumS_row (s : ByteArray) : (sumS s).1 = rowF (sumF s) := by
  unfold sumS sumF
  split
  · exact rowF_zero.symm
  · exact trow_rowF _
theorem sumS_ok {s : ByteArray} (h : s.size ≤ 65536) : (sumS s).2 = 0 := by unfold sumS; rw [if_neg (by omega)]
/-- The text of octets' digest. -/
def md (s : ByteArray) : ByteArray := hexS (fb (sumF s))
set_option maxHeartbeats 2000000 in
set_option maxRecDepth 100000 in
theorem is_c (s want : ByteArray) (hs : s.size ≤ 65536) (hm : md s = want) (w : World) : Calls Tryd.prog 29 #[.string s, .string want] w (Ret w (.bool true)) := by
  have hS := fun w => sumP_c s (by omega) w
  rw [sumS_row, sumS_ok hs] at hS
  have hH := fun w => hexF_c (sumF s) (sumF_bd s) w
  change ∀ w, Calls _ _ _ w (Ret w (.string (md s))) at hH
  rw [hm] at hH
  have hsz := rowF_size (sumF s)
  have hon := rowF_one (sumF s)
  generalize rowF (sumF s) = T at *
  have HS := Hd.mk hS
  have HH := Hd.mk hH
  have Hsz := Hd.mk hsz
  have Hon := Hd.mk hon
  clear hS hH hsz hon hm
  go_enter Tryd.func29, Tryd.ntmps29
  go_wp2_with (first | (go_at_call 13; go_loud (refine (HS.out _).mono ?_; rintro e w1 ⟨rfl, hb⟩; have hrow := Hd.mk (heap_alloc_new w1 (.cells (Array.replicate 16 (Value.int .u8 0)) 28)); have hrow2 := Hd.mk (setRow_heap _ _ _ T _ _ hrow.out))) | (refine wpList_store_row rfl _ _ _ rfl w1.heap.size T rfl rfl _ _ hrow.out (by rw [Hsz.out]; kernel_rfl) (by rw [Hsz.out]; rfl) Hon.out ?_) | (refine wpList_load_row_w rfl _ _ rfl w1.heap.size rfl _ T (0, 0) _ hrow2.out Tryd.underlying28 rfl (by rw [Hsz.out]; kernel_rfl) ?_) | (go_at_call 18; refine (HH.out _).mono ?_; rintro e w2 ⟨rfl, hb2⟩))
  go_ret
  exact ⟨rfl, Ext.trans (Ext.setRow (Ext.alloc hb _) (Ext.size hb) _) hb2⟩
set_option maxHeartbeats 2000000 in
set_option maxRecDepth 100000 in
theorem fails_c (t : ByteArray) (ht : t.size ≤ 9223372036854775807) (hm : unhS t = (row0, 5)) (w : World) : Calls Tryd.prog 30 #[.string t] w (Ret w (.bool true)) := by
  have hU := fun w => unhexP_c t ht w
  rw [hm] at hU
  simp only at hU
  have hq : ∀ w, (binOp .eql 28 (.agg row0) (.agg #[.int .u8 0, .int .u8 0, .int .u8 0, .int .u8 0, .int .u8 0, .int .u8 0, .int .u8 0, .int .u8 0, .int .u8 0, .int .u8 0, .int .u8 0, .int .u8 0, .int .u8 0, .int .u8 0, .int .u8 0, .int .u8 0])).run Tryd.prog w = .ok (.bool true) w := fun w => run_eql_ints w .u8 28 5 16 Tryd.underlying28 Tryd.underlying5 (fun w => by kernel_rfl) (List.replicate 16 0) (List.replicate 16 0) rfl rfl
  have hsz := row0_size
  have hon := row0_one
  generalize row0 = T at *
  have HU := Hd.mk hU
  have Hsz := Hd.mk hsz
  have Hon := Hd.mk hon
  clear hU hm hsz hon
  go_enter Tryd.func30, Tryd.ntmps30
  go_wp2_with (first | (go_at_call 16; refine (HU.out _).mono ?_; rintro e w1 ⟨rfl, hb⟩; have hrow := Hd.mk (heap_alloc_new w1 (.cells (Array.replicate 16 (Value.int .u8 0)) 28)); have hrow2 := Hd.mk (setRow_heap _ _ _ T _ _ hrow.out)) | (refine wpList_store_row rfl _ _ _ rfl w1.heap.size T rfl rfl _ _ hrow.out (by rw [Hsz.out]; kernel_rfl) (by rw [Hsz.out]; rfl) Hon.out ?_) | (refine wpList_load_row rfl _ _ rfl w1.heap.size rfl _ T (0, 0) _ hrow2.out Tryd.underlying28 rfl (by rw [Hsz.out]; kernel_rfl) ?_))
  go_ret
  exact ⟨rfl, Ext.setRow (Ext.alloc hb _) (Ext.size hb) _⟩
theorem fails_short (t : ByteArray) (h : t.size ≠ 32) : unhS t = (row0, 5) := by unfold unhS; rw [if_neg (fun e => h e.1)]
theorem fails_digit (t : ByteArray) (h : digs t 32 = false) : unhS t = (row0, 5) := by unfold unhS; rw [if_neg (fun e => by rw [h] at e; exact absurd e.2 (by decide))]
theorem md_none : md ⟨#[]⟩ = ⟨#[100, 52, 49, 100, 56, 99, 100, 57, 56, 102, 48, 48, 98, 50, 48, 52, 101, 57, 56, 48, 48, 57, 57, 56, 101, 99, 102, 56, 52, 50, 55, 101]⟩ := by decide +kernel
theorem md_a : md ⟨#[97]⟩ = ⟨#[48, 99, 99, 49, 55, 53, 98, 57, 99, 48, 102, 49, 98, 54, 97, 56, 51, 49, 99, 51, 57, 57, 101, 50, 54, 57, 55, 55, 50, 54, 54, 49]⟩ := by decide +kernel
theorem md_abc : md ⟨#[97, 98, 99]⟩ = ⟨#[57, 48, 48, 49, 53, 48, 57, 56, 51, 99, 100, 50, 52, 102, 98, 48, 100, 54, 57, 54, 51, 102, 55, 100, 50, 56, 101, 49, 55, 102, 55, 50]⟩ := by decide +kernel
theorem md_message : md ⟨#[109, 101, 115, 115, 97, 103, 101, 32, 100, 105, 103, 101, 115, 116]⟩ = ⟨#[102, 57, 54, 98, 54, 57, 55, 100, 55, 99, 98, 55, 57, 51, 56, 100, 53, 50, 53, 97, 50, 102, 51, 49, 97, 97, 102, 49, 54, 49, 100, 48]⟩ := by decide +kernel
theorem more_ab : moreS .new ⟨#[97, 98]⟩ = (⟨begin4, 2, ⟨#[97, 98]⟩⟩, 0) := by kernel_rfl
theorem more_c : moreS ⟨begin4, 2, ⟨#[97, 98]⟩⟩ ⟨#[99]⟩ = (⟨begin4, 3, ⟨#[97, 98, 99]⟩⟩, 0) := by kernel_rfl
theorem done_abc : doneS ⟨begin4, 3, ⟨#[97, 98, 99]⟩⟩ = (rowF (sumF ⟨#[97, 98, 99]⟩), 0) := by kernel_rfl

def lower0 : ByteArray := ⟨#[68, 52, 49, 68, 56, 67, 68, 57, 56, 70, 48, 48, 66, 50, 48, 52, 69, 57, 56, 48, 48, 57, 57, 56, 69, 67, 70, 56, 52, 50, 55, 69]⟩
theorem dgL_one' (x : Q4) (l : Int) (r : ByteArray) : (dgL x l r).all (·.oneCell') = true := by simp [dgL, Value.oneCell']
set_option maxHeartbeats 4000000 in
set_option maxRecDepth 100000 in
theorem works_c (w : World) : Calls Tryd.prog 11 #[] w (Ret w (.bool true)) := by
  have HI0 := Hd.mk (fun w => is_c _ _ (by decide) md_none w)
  have HI1 := Hd.mk (fun w => is_c _ _ (by decide) md_a w)
  have HI2 := Hd.mk (fun w => is_c _ _ (by decide) md_abc w)
  have HI3 := Hd.mk (fun w => is_c _ _ (by decide) md_message w)
  have HF0 := Hd.mk (fun w => fails_c lower0 (by decide) (fails_digit _ (by decide)) w)
  have HF1 := Hd.mk (fun w => fails_c ⟨#[48, 48]⟩ (by decide) (fails_short _ (by decide)) w)
  unfold lower0 at HF0
  have hN := newP_c
  have hM1 := fun w => moreP_c .new ⟨#[97, 98]⟩ (by decide) (by decide) w
  rw [more_ab] at hM1
  have hM2 := fun w => moreP_c ⟨begin4, 2, ⟨#[97, 98]⟩⟩ ⟨#[99]⟩ (by decide) (by decide) w
  rw [more_c] at hM2
  have hD := fun w => doneP_c ⟨begin4, 3, ⟨#[97, 98, 99]⟩⟩ w
  rw [done_abc] at hD
  have hH := fun w => hexF_c (sumF ⟨#[97, 98, 99]⟩) (sumF_bd _) w
  change ∀ w, Calls _ _ _ w (Ret w (.string (md ⟨#[97, 98, 99]⟩))) at hH
  rw [md_abc] at hH
  have hC := fun w => checkP_c ⟨0, 0, 0, 0⟩ 1 ⟨#[]⟩ w
  rw [show checkS ⟨0, 0, 0, 0⟩ 1 ⟨#[]⟩ = 80 by decide +kernel] at hC
  have hsz := rowF_size (sumF ⟨#[97, 98, 99]⟩)
  have hon := rowF_one (sumF ⟨#[97, 98, 99]⟩)
  generalize rowF (sumF ⟨#[97, 98, 99]⟩) = T at *
  simp only [Dg.v, Dg.new, dgV] at hN hM1 hM2 hD
  have h1 := dgL_one' begin4 2 ⟨#[97, 98]⟩
  have h2 := dgL_one' begin4 3 ⟨#[97, 98, 99]⟩
  have s1 : (dgL begin4 2 ⟨#[97, 98]⟩).size = 6 := rfl
  have s2 : (dgL begin4 3 ⟨#[97, 98, 99]⟩).size = 6 := rfl
  generalize dgL begin4 0 ⟨#[]⟩ = R0 at *
  generalize dgL begin4 2 ⟨#[97, 98]⟩ = R1 at *
  generalize dgL begin4 3 ⟨#[97, 98, 99]⟩ = R2 at *
  unfold dgV dgL at hC
  have HN := Hd.mk hN
  have HM1 := Hd.mk hM1
  have HM2 := Hd.mk hM2
  have HD := Hd.mk hD
  have HH := Hd.mk hH
  have HC := Hd.mk hC
  have Hsz := Hd.mk hsz
  have Hon := Hd.mk hon
  have S1 := Hd.mk s1
  have S2 := Hd.mk s2
  have O1 := Hd.mk h1
  have O2 := Hd.mk h2
  clear hN hM1 hM2 hD hH hC hsz hon s1 s2 h1 h2
  go_enter Tryd.func11, Tryd.ntmps11
  go_upto_region 2 with (go_at_call 29; first | ((with_reducible refine (HI0.out _).mono ?_); rintro e w1 ⟨rfl, hb1⟩) | ((with_reducible refine (HI1.out _).mono ?_); rintro e w2 ⟨rfl, hb2⟩) | ((with_reducible refine (HI2.out _).mono ?_); rintro e w3 ⟨rfl, hb3⟩) | ((with_reducible refine (HI3.out _).mono ?_); rintro e w4 ⟨rfl, hb4⟩))
  have hE4 : Ext w w4 := (by repeat (first | exact Ext.refl _ | assumption | apply Ext.alloc | apply Ext.drew | apply Ext.drewN | apply Ext.bytes | apply Ext.iter | refine Ext.setCell ?_ (by simp; omega) _ | refine Ext.trans ?_ (by assumption)))
  clear hb1 hb2 hb3 hb4
  go_upto_region 3 with (first | (go_at_call 21; refine (HN.out _).mono ?_; rintro e w5 ⟨rfl, hb5⟩) | (go_at_call 23; refine (HM1.out _).mono ?_; rintro e w6 ⟨rfl, hb6⟩; have hrow1 := Hd.mk (heap_alloc_new w6 (.cells #[.int .i64 0, .int .i64 0, .int .i64 0, .int .i64 0, .int .i64 0, .string ⟨#[]⟩] 41)); have hr1 := Hd.mk (setRow_heap _ _ _ R1 _ _ hrow1.out)) | (refine wpList_store_row rfl _ _ _ rfl w6.heap.size R1 rfl rfl _ _ hrow1.out (by rw [S1.out]; kernel_rfl) (by rw [S1.out]; rfl) O1.out ?_))
  have hE6 : Ext w6 ((w6.alloc (.cells #[.int .i64 0, .int .i64 0, .int .i64 0, .int .i64 0, .int .i64 0, .string ⟨#[]⟩] 41)).setRow w6.heap.size R1) := Ext.setRow (Ext.alloc (Ext.refl _) _) (Nat.le_refl _) _
  have hE6' : Ext w ((w6.alloc (.cells #[.int .i64 0, .int .i64 0, .int .i64 0, .int .i64 0, .int .i64 0, .string ⟨#[]⟩] 41)).setRow w6.heap.size R1) := Ext.trans (Ext.trans (Ext.trans hE4 hb5) hb6) hE6
  have hlt6 : w.heap.size ≤ w6.heap.size := Ext.size (Ext.trans (Ext.trans hE4 hb5) hb6)
  generalize ((w6.alloc (.cells #[.int .i64 0, .int .i64 0, .int .i64 0, .int .i64 0, .int .i64 0, .string ⟨#[]⟩] 41)).setRow w6.heap.size R1) = Y1 at *
  obtain ⟨g, eg⟩ : ∃ g, w6.heap.size = g := ⟨_, rfl⟩
  rw [eg] at hlt6 hr1
  simp only [eg]
  clear hrow1 hb5 hb6 hE6 eg
  go_upto_region 4 with (first | (refine wpList_load_row rfl _ _ rfl g rfl _ R1 (0, 0) _ hr1.out Tryd.underlying41 rfl (by rw [S1.out]; kernel_rfl) ?_) | (go_at_call 23; refine (HM2.out _).mono ?_; rintro e w7 ⟨rfl, hb7⟩; have hr1b := Hd.mk (Ext.blk hb7 hr1.out); have hr2 := Hd.mk (setRow_heap _ _ _ R2 _ _ hr1b.out)) | (refine wpList_store_row rfl _ _ _ rfl g R2 rfl rfl _ _ hr1b.out (by rw [S2.out]; kernel_rfl) (by rw [S1.out, S2.out]) O2.out ?_))
  have hE7 : Ext w (w7.setRow g R2) := Ext.setRow (Ext.trans hE6' hb7) hlt6 _
  generalize w7.setRow g R2 = Y2 at *
  clear hb7 hr1b hr1
  go_upto_region 5 with (first | (refine wpList_load_row rfl _ _ rfl g rfl _ R2 (0, 0) _ hr2.out Tryd.underlying41 rfl (by rw [S2.out]; kernel_rfl) ?_) | (go_at_call 24; refine (HD.out _).mono ?_; rintro e w8 ⟨rfl, hb8⟩; have hrow8 := Hd.mk (heap_alloc_new w8 (.cells (Array.replicate 16 (Value.int .u8 0)) 28)); have hr8 := Hd.mk (setRow_heap _ _ _ T _ _ hrow8.out)) | (refine wpList_store_row rfl _ _ _ rfl w8.heap.size T rfl rfl _ _ hrow8.out (by rw [Hsz.out]; kernel_rfl) (by rw [Hsz.out]; rfl) Hon.out ?_))
  go_wp2_with (first | (refine wpList_load_row_w rfl _ _ rfl w8.heap.size rfl _ T (0, 0) _ hr8.out Tryd.underlying28 rfl (by rw [Hsz.out]; kernel_rfl) ?_) | (go_at_call 18; refine (HH.out _).mono ?_; rintro e w9 ⟨rfl, hb9⟩) | (go_at_call 30; first | ((with_reducible refine (HF0.out _).mono ?_); rintro e wa ⟨rfl, hba⟩) | ((with_reducible refine (HF1.out _).mono ?_); rintro e wb ⟨rfl, hbb⟩)) | (go_at_call 26; refine (HC.out _).mono ?_; rintro e wc ⟨rfl, hbc⟩))
  go_ret
  have hE8 : Ext w ((w8.alloc (.cells (Array.replicate 16 (Value.int .u8 0)) 28)).setRow w8.heap.size T) := Ext.setRow (Ext.alloc (Ext.trans hE7 hb8) _) (Ext.size (Ext.trans hE7 hb8)) _
  exact ⟨rfl, (by repeat (first | exact Ext.refl _ | assumption | apply Ext.alloc | apply Ext.drew | apply Ext.drewN | apply Ext.bytes | apply Ext.iter | refine Ext.setCell ?_ (by simp; omega) _ | refine Ext.trans ?_ (by assumption)))⟩
end Go.Proofs.YtimecmleaeimkaaDoor
