/- A10, EvIn, EvCov: texts joined. -/
import Derived.Test.YtghkalamlcfnnaaGreatDoorQA4
import Derived.Test.YtghkalamlcfnnaaGreatDoorQD3
import Derived.Lib.SlicesCompact
import Derived.Test.YtghkalamlcfnnaaGreatDoorQEvLists
import Derived.Test.YtghkalamlcfnnaaGreatDoorQA5
import Derived.Test.YtghkalamlcfnnaaGreatDoorQEvSort
import Derived.Stop.RegionWithIn
import Derived.Laws.EntriesVeiled
import Derived.Sort.QuietIn
import Derived.Test.YtghkalamlcfnnaaGreatDoorQA11
section
/- EvDays, EvGone, AllSeq, Gives, IsDay: texts joined. -/
section
/- The days of an event, in plain Lean: what Days tells out of what its loops take; no program stands here. -/
namespace Go.Proofs.YtghkalamlcfnnaaGreatDoor
open Go Go.RowKit Lmd
namespace Evt
open Rul Day Cand Cpt

def goneB (e : Ev) (d : Int) : Bool := e.sk.contains d || (froms e.mv).contains d
/-- is a day one of an event's, L its rule's days -/
def occB (e : Ev) (L : List Int) (x : Int) : Bool := (L.contains x && !goneB e x) || e.mv.any fun m => decide (m.2 = x) && L.contains m.1
/-- rising: those of a span -/
def daysIn (e : Ev) (L : List Int) (a b : Int) : List Int := (steps 0 1 73048).filter fun x => decide (a ≤ x ∧ x ≤ b) && occB e L x
/-- what the first loop takes -/
def ruleIn (e : Ev) (L : List Int) (a b : Int) : List Int := L.filter fun x => decide (a ≤ x ∧ x ≤ b) && !goneB e x
/-- what the second loop takes -/
def movesIn (mv : List (Int × Int)) (L : List Int) (a b : Int) : List Int := (mv.filter fun m => decide (a ≤ m.2 ∧ m.2 ≤ b) && isB L m.1).map Prod.snd
/-- the first loop's end: all, or too many -/
def Got (e : Ev) (L : List Int) (a b : Int) (out : List Int) : Prop := out = ruleIn e L a b ∨ (1000 < out.length ∧ out <+: ruleIn e L a b)

/-- what is asked of an event and its rule's days: all of them are days -/
structure Fit (e : Ev) (L : List Int) : Prop where
  rise : L.Pairwise (· < ·)
  days : ∀ x ∈ L, 0 ≤ x ∧ x ≤ 73048
  tos : ∀ m ∈ e.mv, 0 ≤ m.2 ∧ m.2 ≤ 73048

theorem in_rise (e : Ev) (L : List Int) (a b : Int) : (daysIn e L a b).Pairwise (· < ·) := List.Pairwise.filter _ (steps_rise (by omega))
theorem occ_iff {e : Ev} {L : List Int} {x : Int} : occB e L x = true ↔ (x ∈ L ∧ goneB e x = false) ∨ ∃ m ∈ e.mv, m.2 = x ∧ m.1 ∈ L := by
  simp only [occB, Bool.or_eq_true, Bool.and_eq_true, List.contains_iff_mem, Bool.not_eq_true', List.any_eq_true, decide_eq_true_eq]
theorem occ_day {e : Ev} {L : List Int} (h : Fit e L) {x : Int} (hx : occB e L x = true) : 0 ≤ x ∧ x ≤ 73048 := by
  rcases occ_iff.1 hx with ⟨h1, _⟩ | ⟨m, h1, rfl, _⟩
  · exact h.days x h1
  · exact h.tos m h1
theorem in_mem {e : Ev} {L : List Int} (h : Fit e L) {a b x : Int} : x ∈ daysIn e L a b ↔ a ≤ x ∧ x ≤ b ∧ occB e L x = true := by
  unfold daysIn
  rw [List.mem_filter, steps_mem (by omega)]
  simp only [Bool.and_eq_true, decide_eq_true_eq]
  constructor
  · rintro ⟨_, h1, h2⟩; exact ⟨h1.1, h1.2, h2⟩
  · rintro ⟨h1, h2, h3⟩
    obtain ⟨d1, d2⟩ := occ_day h h3
    exact ⟨⟨d1, d2, by omega⟩, ⟨h1, h2⟩, h3⟩
theorem in_eq {e : Ev} {L l : List Int} (h : Fit e L) {a b : Int} (hl : l.Pairwise (· < ·)) (hm : ∀ x, x ∈ l ↔ a ≤ x ∧ x ≤ b ∧ occB e L x = true) : l = daysIn e L a b :=
  rise_ext hl (in_rise e L a b) fun x => (hm x).trans (in_mem h).symm
theorem parts_mem {e : Ev} {L : List Int} (h : Fit e L) {a b x : Int} : x ∈ ruleIn e L a b ++ movesIn e.mv L a b ↔ a ≤ x ∧ x ≤ b ∧ occB e L x = true := by
  rw [List.mem_append, occ_iff, ruleIn, movesIn, List.mem_filter, List.mem_map]
  simp only [List.mem_filter, Bool.and_eq_true, decide_eq_true_eq, Bool.not_eq_true', isB_iff h.rise]
  constructor
  · rintro (⟨h1, ⟨h2, h3⟩, h4⟩ | ⟨m, ⟨h1, ⟨h2, h3⟩, h4⟩, rfl⟩)
    · exact ⟨h2, h3, .inl ⟨h1, h4⟩⟩
    · exact ⟨h2, h3, .inr ⟨m, h1, rfl, h4⟩⟩
  · rintro ⟨h1, h2, ⟨h3, h4⟩ | ⟨m, h3, rfl, h4⟩⟩
    · exact .inl ⟨h3, ⟨h1, h2⟩, h4⟩
    · exact .inr ⟨m, ⟨h3, ⟨h1, h2⟩, h4⟩, rfl⟩
theorem rule_rise {e : Ev} {L : List Int} (h : Fit e L) (a b : Int) : (ruleIn e L a b).Pairwise (· < ·) := List.Pairwise.filter _ h.rise
/-- THE LAW: sorted and compacted it is the days of the span, or both are too many -/
theorem days_law {e : Ev} {L out : List Int} (h : Fit e L) {a b : Int} (hg : Got e L a b out) :
    (1000 < (uniq (out ++ movesIn e.mv L a b)).length ∧ 1000 < (daysIn e L a b).length) ∨ uniq (out ++ movesIn e.mv L a b) = daysIn e L a b := by
  rcases hg with rfl | ⟨h1, h2⟩
  · exact .inr (in_eq h (uniq_rise _) fun x => (uniq_mem _ x).trans (parts_mem h))
  · left
    have hp : out.Pairwise (· < ·) := (rule_rise h a b).sublist h2.sublist
    constructor
    · have := len_sub hp (b := uniq (out ++ movesIn e.mv L a b)) (fun x hx => (uniq_mem _ x).2 (List.mem_append_left _ hx))
      omega
    · have := len_sub hp (b := daysIn e L a b) (fun x hx => (in_mem h).2 ((parts_mem h).1 (List.mem_append_left _ (h2.subset hx))))
      omega
theorem ruleIn_snoc (e : Ev) (p : List Int) (x a b : Int) : ruleIn e (p ++ [x]) a b = ruleIn e p a b ++ (if (decide (a ≤ x ∧ x ≤ b) && !goneB e x) = true then [x] else []) := by
  unfold ruleIn
  rw [List.filter_append]
  congr 1
  simp only [List.filter_cons, List.filter_nil]
theorem ruleIn_stop {e : Ev} {L p : List Int} {x a b : Int} (h : L.Pairwise (· < ·)) (hp : p ++ [x] <+: L) (hx : b < x) : ruleIn e L a b = ruleIn e p a b := by
  obtain ⟨t, rfl⟩ := hp
  unfold ruleIn
  have h2 : ([x] ++ t).filter (fun z => decide (a ≤ z ∧ z ≤ b) && !goneB e z) = [] := by
    rw [List.filter_eq_nil_iff]
    intro z hz
    have h1 : x ≤ z := by
      rcases List.mem_append.1 hz with hz | hz
      · simp at hz; omega
      · have := (List.pairwise_append.1 h).2.2 x (by simp) z hz; omega
    have : ¬ (a ≤ z ∧ z ≤ b) := by omega
    simp [this]
  rw [List.append_assoc, List.filter_append, h2, List.append_nil]
theorem ruleIn_pre {e : Ev} {L p : List Int} {a b : Int} (hp : p <+: L) : ruleIn e p a b <+: ruleIn e L a b := by
  obtain ⟨t, rfl⟩ := hp
  unfold ruleIn
  rw [List.filter_append]; exact List.prefix_append _ _
theorem movesIn_snoc (mv : List (Int × Int)) (m : Int × Int) (L : List Int) (a b : Int) : movesIn (mv ++ [m]) L a b = movesIn mv L a b ++ (if (decide (a ≤ m.2 ∧ m.2 ≤ b) && isB L m.1) = true then [m.2] else []) := by
  unfold movesIn
  rw [List.filter_append, List.map_append]
  congr 1
  simp only [List.filter_cons, List.filter_nil]
  split <;> rfl
/-- is a day covered -/
def covB (e : Ev) (L : List Int) (d : Int) : Bool := rightB d && decide (daysIn e L (d - e.lg + 1) d ≠ [])
theorem cov_iff {e : Ev} {L : List Int} (h : Fit e L) {d : Int} : covB e L d = true ↔ (0 ≤ d ∧ d ≤ 73048) ∧ ∃ x, d - e.lg + 1 ≤ x ∧ x ≤ d ∧ occB e L x = true := by
  unfold covB rightB inB
  rw [Bool.and_eq_true, decide_eq_true_eq, decide_eq_true_eq]
  refine and_congr Iff.rfl ?_
  rw [Ne, List.eq_nil_iff_forall_not_mem]
  constructor
  · intro h1
    refine Classical.byContradiction fun h2 => h1 fun x hx => h2 ?_
    obtain ⟨a, b, c⟩ := (in_mem h).1 hx
    exact ⟨x, a, b, c⟩
  · rintro ⟨x, h1, h2, h3⟩ h4
    exact h4 x ((in_mem h).2 ⟨h1, h2, h3⟩)
/-- a span of so many days holds no more -/
theorem in_len {e : Ev} {L : List Int} (h : Fit e L) {a b : Int} : (daysIn e L a b).length ≤ (b - a + 1).toNat := by
  have := len_sub (in_rise e L a b) (b := steps a 1 b) (fun x hx => by
    obtain ⟨h1, h2, _⟩ := (in_mem h).1 hx
    rw [steps_mem (by omega)]; omega)
  have hl : (steps a 1 b).length = (b - a + 1).toNat := by simp [steps]
  omega
end Evt
end Go.Proofs.YtghkalamlcfnnaaGreatDoor
end

section
/- package event: gone. -/
namespace Go.Proofs.YtghkalamlcfnnaaGreatDoor
open Go Go.RowKit Go.Shelf Lmd
attribute [local go_sem] Oper.semAt_some
namespace Evt
open Rul Day Cand Er

set_option maxRecDepth 100000 in
set_option maxHeartbeats 2000000 in
theorem gone_any (e : Ev) (vd vs vm : Value) (d : Int) (w : World) (hr : Rv w e vd vs vm) (hl1 : e.sk.length ≤ 1000000) (hl2 : e.mv.length ≤ 1000000) :
    Calls Tryz.prog 205 #[.agg (e.cells vd vs vm), .int .i64 d] w fun r w' => r = .returned (.bool (goneB e d)) ∧ Below w.heap.size w w' := by
  obtain ⟨a9, c9, rfl⟩ := hr.s.shape
  obtain ⟨W, hW⟩ : ∃ W, w.alloc (.cells (e.cells vd (.slice a9 e.sk.length c9) vm) 40) = W := ⟨_, rfl⟩
  have hB : Below w.heap.size w W := by rw [← hW]; exact (Below.refl _ w).alloc (Nat.le_refl _) _
  have hx : W.heap[w.heap.size]? = some (.cells (e.cells vd (.slice a9 e.sk.length c9) vm) 40) := by rw [← hW]; exact heap_new w _
  have h1 := hasInt_any e.sk _ d W (hr.s.below hB) hl1
  have h2 := froms_any e vd (.slice a9 e.sk.length c9) vm W (hr.m.below hB) hl2
  have h3 := fun v W' (h : Ints.Reads W' v (froms e.mv)) => hasInt_any (froms e.mv) v d W' h (by rw [froms_len]; exact hl2)
  obtain ⟨q1, hq1⟩ : ∃ q, e.sk.contains d = q := ⟨_, rfl⟩
  obtain ⟨q2, hq2⟩ : ∃ q, (froms e.mv).contains d = q := ⟨_, rfl⟩
  obtain ⟨q, hq⟩ : ∃ q, goneB e d = q := ⟨_, rfl⟩
  have hq' : (q1 || q2) = q := by rw [← hq, ← hq1, ← hq2]; rfl
  rw [hq1] at h1
  rw [hq2] at h3
  rw [hq]
  obtain ⟨n9, hn9⟩ : ∃ n, e.sk.length = n := ⟨_, rfl⟩
  rw [hn9] at h1 h2 hx hW ⊢
  have H1 := Lib.hid h1
  have H2 := Lib.hid h2
  have H3 := Lib.hid h3
  have HQ := Lib.hid hq'
  have HB := Lib.hid hB
  have HW := Lib.hid hW
  have HX := Lib.hid hx
  clear hr hl1 hl2 hW hB hx h1 h2 h3 hq1 hq2 hq hq' hn9
  go_enter Tryz.func205, Tryz.ntmps205
  obtain ⟨k0, k1, k2, k3, k4, k5, k6, k7, k8, k9, k10⟩ := cells11 HX.out
  go_upto_region 1 with fail
  rw [HW.out]
  go_wp2_with fail
  (with_reducible refine H1.out.mono ?_)
  rintro e1 w1 ⟨rfl, rfl⟩
  cases q1 with
  | true =>
    go_wp2
    go_ret
    exact ⟨by rw [← HQ.out]; rfl, HB.out⟩
  | false =>
    go_wp2_with fail
    (with_reducible refine H2.out.mono ?_)
    rintro e2 w2 ⟨v2, rfl, hr2, hb2⟩
    have HR2 := Lib.hid hr2
    have HB2 := Lib.hid hb2
    clear hr2 hb2 k0 k1 k2 k3 k4 k5 k6 k7 k8 k9 k10
    go_wp2_with fail
    (with_reducible refine (H3.out _ _ HR2.out).mono ?_)
    rintro e3 w3 ⟨rfl, rfl⟩
    go_wp2
    go_ret
    exact ⟨by rw [← HQ.out]; cases q2 <;> rfl, HB.out.trans (HB2.out.mono HB.out.size)⟩
end Evt
end Go.Proofs.YtghkalamlcfnnaaGreatDoor
end

section
/- All days of a start and a rule: the iterator All$1 as a contract. -/
namespace Go.Proofs.YtghkalamlcfnnaaGreatDoor
open Go Go.RowKit Go.Shelf Lmd
attribute [local go_sem] Oper.semAt_some
namespace Cand
open Rul Day Er

/-- the captured variables of All$1 -/
def la (br bs : Nat) : Array Value := #[.pointer (some ⟨bs, 0, none⟩), .pointer (some ⟨br, 0, none⟩)]

theorem stop_cases {ct un x : Int} {n : Nat} (h : stopB ct un n x = true) : (0 < ct ∧ (n : Int) = ct) ∨ (0 < ct ∧ (n : Int) ≠ ct ∧ un ≠ -1 ∧ un < x) ∨ (ct ≤ 0 ∧ un ≠ -1 ∧ un < x) := by
  simp only [stopB, under, Bool.or_eq_true, decide_eq_true_eq, Bool.not_eq_true', decide_eq_false_iff_not] at h
  by_cases h1 : 0 < ct <;> by_cases h2 : (n : Int) = ct <;> simp [h1, h2] at h ⊢ <;> omega
theorem go_cases {ct un x : Int} {n : Nat} (h : stopB ct un n x = false) : ((0 < ct ∧ (n : Int) ≠ ct) ∧ un = -1) ∨ (ct ≤ 0 ∧ un = -1) ∨ ((0 < ct ∧ (n : Int) ≠ ct) ∧ un ≠ -1 ∧ x ≤ un) ∨ (ct ≤ 0 ∧ un ≠ -1 ∧ x ≤ un) := by
  simp only [stopB, under, Bool.or_eq_false_iff, decide_eq_false_iff_not, Bool.not_eq_false', decide_eq_true_eq] at h
  by_cases h1 : 0 < ct <;> by_cases h2 : (n : Int) = ct <;> by_cases h3 : un = -1 <;> simp [h1, h2, h3] at h ⊢ <;> omega

set_option maxRecDepth 100000 in
set_option maxHeartbeats 4000000 in
theorem all_seq (base br bs : Nat) (start y m d : Int) (r : Ru) (v : Value) (e : Nat → Addr) (w : World) (hB : Boxes w br bs start r v) (he : E4 w e) (hb : bad r = 0) (hl : r.ds.length < 50000) (ha : Cal.At start y m d) (hg : 0 < base) :
    Rng.Seq Tryz.prog 249 (la br bs) (fun x : Int => #[.int .i64 x]) (Apart base br bs v) (fun xs => xs = daysOf r.ct r.un (cands start y m d r)) (fun pre => pre <+: daysOf r.ct r.un (cands start y m d r)) 100000 w := by
  intro O l J Jx W hW hO hOb hlt hJ hJx hY h0
  refine (callsIn_wide (n := Rng.dp + 1)).1 ?_
  refine callsIn_of_wp_marks Tryz.func249 rfl trivial ?_ rfl
  simp only [Tryz.ntmps249, la, List.size_toArray, List.length_cons, List.length_nil, Nat.reduceAdd, Nat.reduceSub, Array.replicate_succ, Array.replicate_zero, List.push_toArray, List.append_toArray, List.nil_append, List.cons_append]
  have k0 := cell_later hW hB.r0
  have k1 := cell_later hW hB.r1
  have k2 := cell_later hW hB.r2
  have k3 := cell_later hW hB.r3
  have k4 := cell_later hW hB.r4
  have ks := cell_later hW hB.s
  have hR := hB.rd.below hW
  have hE := he.below hW
  have hbd := Cal.at_bd ha
  have hchk : ∀ w', Below W.heap.size W w' → Calls Tryz.prog 114 #[r.val v] w' fun e' w1 => e' = .returned .nilIface ∧ Below w'.heap.size w' w1 := fun w' h => by
    have := check_any r v e w' (hE.below h) (hR.below h) hl
    rw [hb] at this
    exact this
  have hbr := cell_lt k1
  have hbs := cell_lt ks
  have HCHK := Lib.hid hchk
  have HY := Lib.hid hY
  have HH := Lib.hid h0
  have HO := Lib.hid hO
  have HOb := Lib.hid hOb
  have HA := Lib.hid ha
  have HR := Lib.hid hR
  have HE := Lib.hid hE
  have HBAD := Lib.hid hb
  have HJ := Lib.hid hJ
  have HJX := Lib.hid hJx
  clear hB he hb ha hchk hY h0 hO hOb hR hE hJ hJx hW
  gi_wp2_with (first
    | (refine ⟨trivial, ?_⟩; gi_at_call 113; refine (callsIn_wide.2 (right_yes _ _ hbd)).mono ?_; rintro e' w1 ⟨rfl, rfl⟩)
    | (refine ⟨trivial, ?_⟩; gi_at_call 114; refine (callsIn_wide.2 (HCHK.out _ ((Below.refl _ W).alloc (Nat.le_refl _) _))).mono ?_; rintro e' w1 ⟨rfl, hb1⟩
       have hB2 : Below W.heap.size W (w1.alloc (.cells #[.int .i64 0] 3)) := (((Below.refl _ W).alloc (Nat.le_refl _) _).trans (hb1.mono (by simp))).alloc (Nat.le_trans (by simp) hb1.size) _
       have k02 := cell_later hB2 k0
       have k12 := cell_later hB2 k1
       have k22 := cell_later hB2 k2
       have k32 := cell_later hB2 k3
       have k42 := cell_later hB2 k4
       have ks2 := cell_later hB2 ks)
    | (refine ⟨trivial, ?_⟩; gi_at_call 250; refine (callsIn_wide.2 (candidates_any start r v _)).mono ?_; rintro e' w2 ⟨rfl, rfl⟩))
  have hz1 : W.heap.size + 1 ≤ w1.heap.size := by simpa using hb1.size
  have cY1 := cell_later hb1 (cell_of (heap_new W (.cells #[.func (.yield l) #[] #[]] 163)) (i := 0) rfl)
  have hY1 : W.heap.size < w1.heap.size := by omega
  obtain ⟨W0, hW0⟩ : ∃ W0, ((w1.alloc (.cells #[.int .i64 0] 3)).alloc (.cells #[.int .i64 start] 3)).alloc (.cells #[.string r.fq, .int .i64 r.ev, v, .int .i64 r.ct, .int .i64 r.un] 37) = W0 := ⟨_, rfl⟩
  have hz : W0.heap.size = w1.heap.size + 3 := by rw [← hW0]; simp
  have hBw : Below w1.heap.size w1 W0 := by rw [← hW0]; exact (((Below.refl _ w1).alloc (Nat.le_refl _) _).alloc (by simp) _).alloc (by simp; omega) _
  have hB0 : Below W.heap.size W W0 := (((Below.refl _ W).alloc (Nat.le_refl _) (.cells #[.func (.yield l) #[] #[]] 163)).trans (hb1.mono (by simp))).trans (hBw.mono (by omega))
  have bN : Boxed W0 w1.heap.size 3 (.int .i64 0) := by rw [← hW0]; exact ((Boxed.new w1 _ _).alloc _).alloc _
  have hBX : Boxes W0 (w1.heap.size + 1 + 1) (w1.heap.size + 1) start r v := by
    rw [← hW0]
    have := boxes_new start r v (w1.alloc (.cells #[.int .i64 0] 3)) (HR.out.below hB2) 3 37
    rwa [World.size_alloc] at this
  have cY := cell_later hBw cY1
  have c3 := cell_later hB0 k3
  have c4 := cell_later hB0 k4
  have cE := cell_later hB0 HE.out.s1.1
  have hgl : 0 < W.heap.size := cell_lt HE.out.s1.1
  rw [hW0]
  clear hW0 hBw hB2 k02 k12 k22 k32 k42 ks2 k0 k1 k2 k3 k4 ks cY1 hb1
  have hyO : ¬ (O W.heap.size ∨ W.heap.size = w1.heap.size) := fun h => h.elim (fun h => by have := HOb.out _ h; omega) (fun h => by omega)
  have hrO : ¬ (O br ∨ br = w1.heap.size) := fun h => h.elim (fun h => HO.out.1 h) (fun h => by omega)
  have hHI : W.heap.size ≤ W0.heap.size := hB0.size
  refine Rng.range_law (n := Rng.dp + 1) (by decide) (gf := 277) (lb := lb (w1.heap.size + 1 + 1) (w1.heap.size + 1)) rfl (enters_of Tryz.func277 (by kernel_rfl) rfl)
    (cands_seq (0 + 1) (w1.heap.size + 1 + 1) (w1.heap.size + 1) start y m d r v (e 1) W0 hBX HBAD.out HA.out (by omega) cE)
    (Below.refl _ _) (fun _ => rfl) (fun b => O b ∨ b = w1.heap.size) (fun b hb => hb.elim (fun h => by have := HOb.out _ h; omega) (fun h => by omega)) ?hR
    (fun hi pre W' => (J hi pre W' ∧ Boxed W' w1.heap.size 3 (.int .i64 (pre.length : Int))) ∧ Rng.Stay (fun b => O b ∨ b = w1.heap.size) W0.heap.size W0 W' ∧ Goes r.ct r.un pre)
    (fun c hi pre W' => c = .ret ∧ ((∃ p x, pre = p ++ [x] ∧ J hi p W' ∧ Goes r.ct r.un p ∧ stopB r.ct r.un p.length x = true) ∨ Jx hi pre W' ∧ Goes r.ct r.un pre))
    ?hI ?hIx ?h0 (fun x => { tmps := #[.func (.yield l) #[] #[], .pointer (some ⟨bs, 0, none⟩), .pointer (some ⟨br, 0, none⟩), .pointer (some ⟨W.heap.size, 0, none⟩), .pointer (some ⟨w1.heap.size, 0, none⟩), .int .i64 x, .int .i64 start, .bool true, .bool false, .bool false, .agg #[.string r.fq, .int .i64 r.ev, v, .int .i64 r.ct, .int .i64 r.un], .nilIface, .bool false, .bool false, .int .i64 start, .agg #[.string r.fq, .int .i64 r.ev, v, .int .i64 r.ct, .int .i64 r.un], .func (.func 277) #[] (lb (w1.heap.size + 1 + 1) (w1.heap.size + 1)), .int .i64 x, undef, undef, undef, undef, undef, undef, undef, undef, undef, undef, undef, undef, undef, undef, undef, undef, undef, undef, undef, undef, undef, undef, undef, undef, undef, undef, undef, undef], defers := [] }) ?assign ?body ?done ?stop
  case hR =>
    refine ⟨fun h => h.elim (fun h => by have := HOb.out _ h; omega) (fun h => by omega), fun h => h.elim (fun h => by have := HOb.out _ h; omega) (fun h => by omega), ?_, ?_⟩
    · intro b o n c hv hn h
      have := reads_lt HR.out hv hn
      exact h.elim (fun h => HO.out.2.2.1 b o n c hv hn h) (fun h => by omega)
    · intro b h
      exact h.elim (fun h => by have := HO.out.2.2.2 b h; omega) (fun h => by omega)
  case hI =>
    exact rng_and (rng_and (HJ.out.mono hHI) (rng_boxed (by omega))) (rng_and (rng_stay _ _ _) (rng_const _))
  case hIx =>
    intro c hi s A B row hB hs hg hr
    obtain ⟨hc, (⟨p, x, e1, hj, g1, s1⟩ | ⟨hj, g1⟩)⟩ := hs
    · exact ⟨hc, .inl ⟨p, x, e1, (HJ.out.mono hHI) hi p A B row hB hj hg hr, g1, s1⟩⟩
    · exact ⟨hc, .inr ⟨(HJX.out.mono hHI) hi s A B row hB hj hg hr, g1⟩⟩
  case h0 =>
    intro W' hW'
    exact ⟨⟨HH.out W' (hB0.trans (hW'.mono hHI)), bN.kept (Rng.grownBy_of_below hW') (by simp)⟩, Rng.Stay.of_below hW', goes_nil _ _⟩
  case assign =>
    intro l2 x W' K hK
    gi_wp2
    exact hK
  case body =>
    rintro hi l2 pre x W' hhi ⟨⟨hj, bN'⟩, hst, hgo⟩ hlen
    have y1 := stay_cell hst cY hyO (cell_lt cY)
    have y3 := stay_cell hst c3 hrO (cell_lt c3)
    have y4 := stay_cell hst c4 hrO (cell_lt c4)
    have cN := bN'.cell
    have fN := bN'.frozen
    by_cases hs : stopB r.ct r.un pre.length x = true
    · have hcs := stop_cases hs
      have HS := Lib.hid hs
      have HJ1 := Lib.hid hj
      have HG := Lib.hid hgo
      clear hs hj hgo
      rcases hcs with ⟨h1, h2⟩ | ⟨h1, h2, h3, h4⟩ | ⟨h1, h3, h4⟩
      all_goals (
        gi_wp2
        refine ⟨fun _ h => (by cases h), ?_⟩
        gi_wp2
        exact ⟨rest_refl _ _, rfl, .inl ⟨pre, x, rfl, HJ1.out, HG.out, HS.out⟩⟩)
    · have hs' : stopB r.ct r.un pre.length x = false := by simpa using hs
      have hcs := go_cases hs'
      obtain ⟨f1, t1, a1, b1, hy1, hR1⟩ := HY.out hi pre x W' (by omega) hj hlen
      have HS := Lib.hid hs'
      have HJ1 := Lib.hid hj
      have HG := Lib.hid hgo
      have HST := Lib.hid hst
      clear hs hj hgo hs' hst
      have fin : ∀ (a0 : Act) W1, J hi (pre ++ [x]) W1 → Rng.Stay O hi W' W1 → Rng.Post W0.heap.size (fun b => O b ∨ b = w1.heap.size)
          (fun hi pre W' => (J hi pre W' ∧ Boxed W' w1.heap.size 3 (.int .i64 (pre.length : Int))) ∧ Rng.Stay (fun b => O b ∨ b = w1.heap.size) W0.heap.size W0 W' ∧ Goes r.ct r.un pre)
          (fun c hi pre W' => c = .ret ∧ ((∃ p x, pre = p ++ [x] ∧ J hi p W' ∧ Goes r.ct r.un p ∧ stopB r.ct r.un p.length x = true) ∨ Jx hi pre W' ∧ Goes r.ct r.un pre))
          hi (pre ++ [x]) W' .normal a0 (W1.setCell ⟨w1.heap.size, 0, none⟩ (.int .i64 ((pre.length : Int) + 1))) := by
        intro _ W1 hJ1 hk1
        have hbO : ¬ O w1.heap.size := fun h => by have := HOb.out _ h; omega
        have b1 : Boxed W1 w1.heap.size 3 (.int .i64 (pre.length : Int)) := hk1.same _ _ bN' (.inr ⟨hbO, by omega⟩)
        have hk2 := hk1.mono (O' := fun b => O b ∨ b = w1.heap.size) (hi' := hi) (fun b _ h => .inl h) (Nat.le_refl _)
        have hcl : ∀ o, W'.heap[w1.heap.size]? = some o → o.isCells = true := fun o ho => by
          have e : W'.heap[w1.heap.size]? = _ := bN'
          rw [e] at ho; cases ho; rfl
        have hcl0 : ∀ o, W0.heap[w1.heap.size]? = some o → o.isCells = true := fun o ho => by
          have e : W0.heap[w1.heap.size]? = _ := bN
          rw [e] at ho; cases ho; rfl
        refine ⟨hk2.setCell (.inl (.inr rfl)) hcl _, ⟨HJ.out hi _ W1 _ (some w1.heap.size) (by omega) hJ1 (grownBy_setCell' W1 w1.heap.size _) (fun r e => by cases e; exact ⟨by omega, by omega⟩), ?_⟩, (HST.out.trans (hk2.mono (fun _ _ h => h) (by omega))).setCell (.inl (.inr rfl)) hcl0 _, goes_snoc HG.out HS.out⟩
        have := b1.set (.int .i64 ((pre.length : Int) + 1))
        rw [List.length_append]
        simpa using this
      have FIN := Lib.hid fin
      clear fin
      have HLEN := Lib.hid hlen
      clear hlen
      have fz : ∀ W1, Rng.Stay O hi W' W1 → W1.cell? ⟨w1.heap.size, 0, none⟩ = some (.int .i64 (pre.length : Int)) ∧ W1.frozen? ⟨w1.heap.size, 0, none⟩ = false := fun W1 hk1 => by
        have b1 : Boxed W1 w1.heap.size 3 (.int .i64 (pre.length : Int)) := hk1.same _ _ bN' (.inr ⟨fun h => by have := HOb.out _ h; omega, by omega⟩)
        exact ⟨b1.cell, b1.frozen⟩
      have FZ := Lib.hid fz
      clear fz
      rcases hcs with ⟨⟨h1, h2⟩, h3⟩ | ⟨h1, h3⟩ | ⟨⟨h1, h2⟩, h3, h4⟩ | ⟨h1, h3, h4⟩
      all_goals (
        try (have h2' : ((pre.length : Int) == r.ct) = false := by simpa using h2)
        try (have h3' : (r.un != -1) = true := by simpa using h3)
        try (have h4' : decide (r.un < x) = false := by simpa using h4)
        gi_wp2
        refine (round_in hR1).mono ?_
        rintro e3 W1 (⟨rfl, hJ1, hk1⟩ | ⟨rfl, hx1, hr1⟩)
        · obtain ⟨cN1, fN1⟩ := FZ.out W1 hk1
          have hlen' : (pre.length : Int) < 100000 := by have := HLEN.out; omega
          have hq1 := Lib.hid hk1
          have hq2 := Lib.hid hJ1
          clear hk1 hJ1
          gi_wp2
          exact FIN.out _ W1 hq2.out hq1.out
        · gi_wp2
          exact ⟨fun b o hb hc hn => hr1 b o (by omega) hc hn, rfl, .inr ⟨hx1, goes_snoc HG.out HS.out⟩⟩)
  case done =>
    rintro D hi xs W' hD hDh rfl ⟨⟨hj, _⟩, _, hgo⟩ hK
    gi_wp2
    refine ⟨by simp, .inl ⟨_, _, rfl, run_takeDeferred hK, ?_⟩⟩
    refine ⟨_, results_none rfl _ _ _, ⟨_, rfl⟩, hi, by omega, .inl ⟨_, (days_done hgo).symm, HJ.out.putObj _ (by omega) hj (by omega) hDh⟩⟩
  case stop =>
    rintro D hi c pre W' hD hDh hpre ⟨rfl, hq⟩ hK
    gi_wp2
    refine ⟨by simp, .inl ⟨_, _, rfl, run_takeDeferred hK, ?_⟩⟩
    refine ⟨_, results_none rfl _ _ _, ⟨_, rfl⟩, hi, by omega, ?_⟩
    rcases hq with ⟨p, x, rfl, hj, g1, s1⟩ | ⟨hj, g1⟩
    · exact .inl ⟨p, (days_stop g1 hpre s1).symm, HJ.out.putObj _ (by omega) hj (by omega) hDh⟩
    · exact .inr ⟨pre, days_pre g1 hpre, HJX.out.putObj _ (by omega) hj (by omega) hDh⟩
end Cand
end Go.Proofs.YtghkalamlcfnnaaGreatDoor
end

section
/- What the iterator of all days gives, by name. -/
namespace Go.Proofs.YtghkalamlcfnnaaGreatDoor
open Go Go.RowKit Go.Shelf Lmd
attribute [local go_sem] Oper.semAt_some
namespace Cand
open Rul Day Er

/-- what the iterator of all days gives -/
def Gives (start : Int) (r : Ru) (v : Value) (l : List Int) (w : World) : Prop :=
  ∀ (W0 : World) (br bs : Nat), Below w.heap.size w W0 → Boxes W0 br bs start r v → Rng.Seq Tryz.prog 249 (la br bs) (fun x : Int => #[.int .i64 x]) (Apart (0 + 1) br bs v) (fun xs => xs = l) (fun pre => pre <+: l) 100000 W0

theorem gives_all (start y m d : Int) (r : Ru) (v : Value) (e : Nat → Addr) (w : World) (he : E4 w e) (hb : bad r = 0) (hl : r.ds.length < 50000) (ha : Cal.At start y m d) : Gives start r v (daysOf r.ct r.un (cands start y m d r)) w :=
  fun W0 br bs hW hB => all_seq (0 + 1) br bs start y m d r v e W0 hB (he.below hW) hb hl ha (by omega)
theorem Gives.below {start : Int} {r : Ru} {v : Value} {l : List Int} {w w' : World} (h : Gives start r v l w) (hb : Below w.heap.size w w') : Gives start r v l w' :=
  fun W0 br bs hW hB => h W0 br bs (hb.trans (hW.mono hb.size)) hB

end Cand
end Go.Proofs.YtghkalamlcfnnaaGreatDoor
end

section
/- Is, over what the iterator of all days gives. -/
namespace Go.Proofs.YtghkalamlcfnnaaGreatDoor
open Go Go.RowKit Go.Shelf Lmd
attribute [local go_sem] Oper.semAt_some
namespace Cand
open Rul Day Er

theorem isB_hit {l p : List Int} {x d : Int} (h : p ++ [x] <+: l) (hp : ∀ y ∈ p, y < d) (hx : d ≤ x) : isB l d = decide (x = d) := by
  obtain ⟨t, rfl⟩ := h
  unfold isB
  have h1 : List.find? (fun x => decide (d ≤ x)) (p ++ [x] ++ t) = some x := by
    rw [List.append_assoc, List.find?_append, List.find?_eq_none.2 (fun y hy => by have := hp y hy; simp; omega)]
    simp [hx]
  rw [h1]
theorem isB_miss {l : List Int} {d : Int} (hp : ∀ y ∈ l, y < d) : isB l d = false := by
  unfold isB
  rw [List.find?_eq_none.2 (fun y hy => by have := hp y hy; simp; omega)]

set_option maxRecDepth 100000 in
set_option maxHeartbeats 4000000 in
theorem is_any (start : Int) (r : Ru) (v : Value) (dd : Int) (l : List Int) (e : Nat → Addr) (w : World) (hG : Gives start r v l w) (he : E4 w e) (hr : Ints.Reads w v r.ds) :
    Calls Tryz.prog 206 #[.int .i64 start, r.val v, .int .i64 dd] w fun e' w' => e' = .returned (.bool (isB l dd)) ∧ Below w.heap.size w w' := by
  refine (callsIn_wide (n := Rng.dp + 1)).1 ?_
  refine callsIn_of_wp_marks Tryz.func206 rfl trivial ?_ rfl
  simp only [Tryz.ntmps206, Ru.val, List.size_toArray, List.length_cons, List.length_nil, Nat.reduceAdd, Nat.reduceSub, Array.replicate_succ, Array.replicate_zero, List.push_toArray, List.append_toArray, List.nil_append, List.cons_append]
  have HR := Lib.hid hr
  have HE := Lib.hid he
  have HG := Lib.hid hG
  clear hr he hG
  gi_wp2_with (refine ⟨trivial, ?_⟩; gi_at_call 204; refine (callsIn_wide.2 (all_any start r v _)).mono ?_; rintro e' w2 ⟨rfl, rfl⟩)
  obtain ⟨Wa, hWa⟩ : ∃ Wa, ((w.alloc (.cells #[.string r.fq, .int .i64 r.ev, v, .int .i64 r.ct, .int .i64 r.un] 37)).alloc (.cells #[.int .i64 dd] 3)).alloc (.cells #[.bool false] 4) = Wa := ⟨_, rfl⟩
  have hza : Wa.heap.size = w.heap.size + 1 + 1 + 1 := by rw [← hWa]; simp
  have hBa : Below w.heap.size w Wa := by
    rw [← hWa]
    exact (((Below.refl _ w).alloc (Nat.le_refl _) _).alloc (by simp) _).alloc (by simp; omega) _
  have bN : Boxed Wa (w.heap.size + 1) 3 (.int .i64 dd) := by
    have h := (Boxed.new (w.alloc (.cells #[.string r.fq, .int .i64 r.ev, v, .int .i64 r.ct, .int .i64 r.un] 37)) 3 (.int .i64 dd)).alloc (.cells #[.bool false] 4)
    rw [hWa] at h; simpa only [World.size_alloc] using h
  have b6 : Boxed Wa (w.heap.size + 1 + 1) 4 (.bool false) := by
    have h := Boxed.new ((w.alloc (.cells #[.string r.fq, .int .i64 r.ev, v, .int .i64 r.ct, .int .i64 r.un] 37)).alloc (.cells #[.int .i64 dd] 3)) 4 (.bool false)
    rw [hWa] at h; simpa only [World.size_alloc] using h
  rw [hWa]
  clear hWa
  have hBX := boxes_new start r v Wa (HR.out.below hBa) 3 37
  obtain ⟨W0, hW0⟩ : ∃ W0, (Wa.alloc (.cells #[.int .i64 start] 3)).alloc (.cells #[.string r.fq, .int .i64 r.ev, v, .int .i64 r.ct, .int .i64 r.un] 37) = W0 := ⟨_, rfl⟩
  rw [hW0] at hBX ⊢
  have hB0 : Below Wa.heap.size Wa W0 := by rw [← hW0]; exact ((Below.refl _ Wa).alloc (Nat.le_refl _) _).alloc (by simp) _
  have hz : W0.heap.size = w.heap.size + 5 := by rw [← hW0]; simp [hza]
  rw [hza] at hBX
  have bN0 := bN.kept (Rng.grownBy_of_below hB0) (by simp)
  have b60 := b6.kept (Rng.grownBy_of_below hB0) (by simp)
  have hBw : Below w.heap.size w W0 := hBa.trans (hB0.mono (by omega))
  have hgl : 0 < w.heap.size := cell_lt HE.out.s1.1
  clear hW0 bN b6 hBa hB0
  refine Rng.range_law (n := Rng.dp + 1) (by decide) (gf := 249) (lb := la (w.heap.size + 1 + 1 + 1 + 1) (w.heap.size + 1 + 1 + 1)) rfl (enters_of Tryz.func249 (by kernel_rfl) rfl)
    (HG.out W0 _ _ hBw hBX) (Below.refl _ _) (fun _ => rfl) (fun b => b = w.heap.size + 1 + 1) (fun b hb => by omega) ?hR
    (fun hi pre W' => (Boxed W' (w.heap.size + 1) 3 (.int .i64 dd) ∧ Boxed W' (w.heap.size + 1 + 1) 4 (.bool false)) ∧ Rng.Stay (fun b => b = w.heap.size + 1 + 1) W0.heap.size W0 W' ∧ ∀ y ∈ pre, y < dd)
    (fun c hi pre W' => c = .ret ∧ (∃ p x, pre = p ++ [x] ∧ (∀ y ∈ p, y < dd) ∧ dd ≤ x ∧ Boxed W' (w.heap.size + 1 + 1) 4 (.bool (decide (x = dd)))) ∧ Rng.Stay (fun b => b = w.heap.size + 1 + 1) W0.heap.size W0 W')
    ?hI ?hIx ?h0 (fun x => { tmps := #[.int .i64 start, .agg #[.string r.fq, .int .i64 r.ev, v, .int .i64 r.ct, .int .i64 r.un], .int .i64 dd, undef, .pointer (some ⟨w.heap.size, 0, none⟩), .pointer (some ⟨w.heap.size + 1, 0, none⟩), .pointer (some ⟨w.heap.size + 1 + 1, 0, none⟩), .int .i64 x, .int .i64 start, .agg #[.string r.fq, .int .i64 r.ev, v, .int .i64 r.ct, .int .i64 r.un], .func (.func 249) #[] (la (w.heap.size + 1 + 1 + 1 + 1) (w.heap.size + 1 + 1 + 1)), .int .i64 x, undef, undef, undef, undef, undef, undef], defers := [] }) ?assign ?body ?done ?stop
  case hR =>
    refine ⟨fun h => by omega, fun h => by omega, ?_, fun b h => by omega⟩
    intro b o m c hv hm h
    have := reads_lt HR.out hv hm
    omega
  case hI =>
    exact rng_and (rng_and (rng_boxed (f := fun _ => .int .i64 dd) (by omega)) (rng_boxed (f := fun _ => .bool false) (by omega))) (rng_and (rng_stay _ _ _) (rng_const _))
  case hIx =>
    intro c hi s A B row hB hs hg hr
    obtain ⟨hc, ⟨p, x, e1, hn, hx, g1⟩, hst⟩ := hs
    exact ⟨hc, ⟨p, x, e1, hn, hx, g1.kept hg (fun e => by have := (hr _ e.symm).1; omega)⟩, rng_stay _ _ _ hi s A B row hB hst hg hr⟩
  case h0 =>
    intro W' hW'
    exact ⟨⟨bN0.kept (Rng.grownBy_of_below hW') (by simp), b60.kept (Rng.grownBy_of_below hW') (by simp)⟩, Rng.Stay.of_below hW', by simp⟩
  case assign =>
    intro l2 x W' K hK
    gi_wp2
    exact hK
  case body =>
    rintro hi l2 pre x W' hhi ⟨⟨cn, c6⟩, hst, hno⟩ hlen
    have y1 := cn.cell
    have y2 := c6.cell
    have f2 := c6.frozen
    have HST := Lib.hid hst
    have HC6 := Lib.hid c6
    have HCN := Lib.hid cn
    have HNO := Lib.hid hno
    clear hst c6 cn hno hlen
    have cl : ∀ {b : Nat} {t : TypeId} {u : Value} {A : World}, Boxed A b t u → ∀ o, A.heap[b]? = some o → o.isCells = true := fun hb o ho => by
      rw [show _ = _ from hb] at ho; cases ho; rfl
    have CL0 := Lib.hid (cl b60)
    clear cl
    by_cases hn : dd ≤ x
    · by_cases hq : x = dd
      · have hq' : (x == dd) = true := by simpa using hq
        subst hq
        gi_wp2
        exact ⟨rest_set (rest_refl _ _) _ (by show w.heap.size + 1 + 1 < _; omega) _, rfl,
          ⟨pre, x, rfl, HNO.out, hn, by simpa using HC6.out.set (.bool true)⟩,
          HST.out.setCell (.inl rfl) CL0.out _⟩
      · have hq' : (x == dd) = false := by simpa using hq
        have hd : decide (x = dd) = false := decide_eq_false hq
        gi_wp2
        exact ⟨rest_set (rest_refl _ _) _ (by show w.heap.size + 1 + 1 < _; omega) _, rfl,
          ⟨pre, x, rfl, HNO.out, hn, by rw [hd]; first | exact HC6.out.set (.bool false) | (have := HC6.out.set (.bool (x == dd)); rwa [hq'] at this)⟩,
          HST.out.setCell (.inl rfl) CL0.out _⟩
    · gi_wp2
      exact ⟨Rng.Stay.refl _ _ _, ⟨HCN.out, HC6.out⟩, (by first | exact HST.out | (have h := HST.out; rwa [hz] at h)), fun y hy => by
        rcases List.mem_append.1 hy with hy | hy
        · exact HNO.out y hy
        · simp at hy; omega⟩
  case done =>
    rintro D hi xs W' hD hDh rfl ⟨⟨cn, c6⟩, hst, hno⟩ hK
    have y2 := c6.cell
    have f2 := c6.frozen
    have HST := Lib.hid hst
    have HK := Lib.hid hK
    clear hst hK
    gi_wp2
    have g1 : Boxed (W'.setCell ⟨w.heap.size + 1 + 1, 0, none⟩ (.bool false)) (w.heap.size + 1 + 1) 4 (.bool false) := c6.set _
    have hK : (W'.setCell ⟨w.heap.size + 1 + 1, 0, none⟩ (.bool false)).heap[D]? = some (.deferred (some [])) := by
      rw [Below.heap_setCell _ _ _ _ (by show D ≠ w.heap.size + 1 + 1; omega)]; exact HK.out
    have cl : ∀ {b : Nat} {t : TypeId} {u : Value} {A : World}, Boxed A b t u → ∀ o, A.heap[b]? = some o → o.isCells = true := fun hb o ho => by
      rw [show _ = _ from hb] at ho; cases ho; rfl
    have hst2 := HST.out.setCell (p := ⟨w.heap.size + 1 + 1, 0, none⟩) (.inl rfl) (cl b60) (.bool false)
    refine ⟨by simp, .inl ⟨_, _, rfl, run_takeDeferred hK, ?_⟩⟩
    have r1 := (g1.kept (grownBy_putObj' _ D (.deferred none)) (by simp; omega)).cell
    have hb := (stay_below hst2 (B := w.heap.size) (fun b h => by omega) (by omega) (by omega))
    refine ⟨.bool false, ?_, by rw [isB_miss hno], ?_⟩
    · simp [results, Tryz.f206, go_sem, r1]
    · exact (hBw.trans hb).trans (belowK_b (w := w) (Nat.le_refl _) _ D _ _ (by omega) hK rfl rfl)
  case stop =>
    rintro D hi c pre W' hD hDh hpre ⟨rfl, ⟨p, x, rfl, hn, hx, g1⟩, hst⟩ hK
    gi_wp2
    refine ⟨by simp, .inl ⟨_, _, rfl, run_takeDeferred hK, ?_⟩⟩
    have r1 := (g1.kept (grownBy_putObj' W' D (.deferred none)) (by simp; omega)).cell
    have hb := (stay_below hst (B := w.heap.size) (fun b h => by omega) (by omega) (by omega))
    refine ⟨.bool (decide (x = dd)), ?_, by rw [isB_hit hpre hn hx], ?_⟩
    · simp [results, Tryz.f206, go_sem, r1]
    · exact (hBw.trans hb).trans (belowK_b (w := w) (Nat.le_refl _) W' D _ _ (by omega) hK rfl rfl)
end Cand
end Go.Proofs.YtghkalamlcfnnaaGreatDoor
end
end

section
/- package event: Days, of an event that passes. -/
namespace Go.Proofs.YtghkalamlcfnnaaGreatDoor
open Go Go.RowKit Go.Shelf Lmd
attribute [local go_sem] Oper.semAt_some
namespace Evt
open Rul Day Cand Er

theorem rng_rule {B b : Nat} (e : Ev) (ka kb : Int) (hb : b < B) : Rng.Stable B (fun hi pre W' => Holds b hi (ruleIn e pre ka kb) W') := by
  intro hi s A C row hB hs hg hr
  exact holds_kept hs hg (fun r e => by have := (hr r e).1; omega) (fun r e => (hr r e).2)

/-- a number behind a boxed slice of one's own, inside a fence -/
theorem append_box {F : Fence} {n : Nat} {W : World} {ops : Array Oper} {rest : List Oper} {o : Oper} {a : Act} {Q : Exit → Act → World → Prop} (hgd : o.guard = none) (s x : Operand)
    (ho : o.op = .call { callee := .builtin .append, args := #[s, x], argTypes := #[35, 35] }) (b hi : Nat) (l : List Int) (a0 : Option Addr) (c0 : Nat) (y : Int) (hs : a.eval s = .slice a0 l.length c0)
    (hv : Boxed W b 35 (.slice a0 l.length c0)) (hrow : W.ownsRow hi 3 1 (.slice a0 l.length c0) l.length (cellsOf l)) (hx : a.eval x = .slice (some ⟨W.heap.size, 0, none⟩) 1 1) (O : Nat → Prop) (hO : O b) (hl : l.length ≤ 3000000) (hbase : hi ≤ W.heap.size)
    (h : ∀ a' c' w', Boxed w' b 35 (.slice a0 l.length c0) → Holds b hi (l ++ [y]) (w'.setCell ⟨b, 0, none⟩ (.slice a' (l.length + 1) c')) → Rng.Stay O hi W (w'.setCell ⟨b, 0, none⟩ (.slice a' (l.length + 1) c')) →
      wpListIn F n Tryz.prog ops Q rest (a.put o.dst (.slice a' (l.length + 1) c')) w') : wpListIn F n Tryz.prog ops Q (o :: rest) a (W.alloc (.cells #[.int .i64 y] 3)) := by
  obtain ⟨i0, hi0, hz0, hz1, hz2⟩ := info_parts int_info
  refine wpListIn_append_own _ hgd s x 35 ho hi 3 i0 _ 1 8 Tryz.underlying35 hi0 hz0 hz1 hz2 rfl (by omega) (.slice a0 l.length c0) l.length (cellsOf l) hs (hrow.alloc _) ⟨W.heap.size, 0, none⟩ 1 1 [.int .i64 y] hx rfl
    (fun j u hu => by
      cases j with
      | zero => simp at hu; subst hu; exact (Boxed.new W _ _).cell
      | succ j => simp at hu) (fun u hu => by simp at hu; subst hu; rfl) (by simp only [maxLen]; omega) (by omega) (by simp; omega) ?_
  intro v1 w1 hown' hg hnil
  have hap := holds_append hv hrow hO hown' hg
  obtain ⟨a1, c1, rfl⟩ := own_at hown'
  exact h a1 c1 w1 hap.1 hap.2.1 hap.2.2
theorem own_mono {w : World} {base base' size : Nat} {e : TypeId} {v : Value} {n : Nat} {xs : List Value} (h : w.ownsRow base e size v n xs) (hb : base' ≤ base) : w.ownsRow base' e size v n xs := by
  refine ⟨h.1, h.2.imp id ?_⟩
  rintro ⟨g, cap, cur, h1, h2, h3⟩
  exact ⟨g, cap, cur, h1, by omega, h3⟩
theorem holds_mono {b hi hi' : Nat} {l : List Int} {W : World} (h : Holds b hi l W) (hb : hi' ≤ hi) : Holds b hi' l W := by
  obtain ⟨v, h1, h2⟩ := h
  exact ⟨v, h1, own_mono h2 hb⟩
theorem holds_below {b hi : Nat} {l : List Int} {W W' : World} (h : Holds b hi l W) (hb : Below W.heap.size W W') : Holds b hi l W' :=
  holds_kept h (Rng.grownBy_of_below hb) (fun r e => by cases e) (fun r e => by cases e)

set_option maxRecDepth 100000 in
set_option maxHeartbeats 8000000 in
theorem days_good (e : Ev) (vd vs vm : Value) (ka kb : Int) (L : List Int) (er : Nat → Addr) (w : World) (he : E7 w er) (hr : Rv w e vd vs vm) (hz : Size e) (hbad : badE e = 0) (hG : Gives e.st e.ru vd L w) (hF : Fit e L) :
    Calls Tryz.prog 160 #[.agg (e.cells vd vs vm), .int .i64 ka, .int .i64 kb] w fun r w' =>
      ∃ v' er', r = .returned (.tuple #[v', er']) ∧ ((1000 < (daysIn e L ka kb).length ∧ v' = .slice none 0 0 ∧ er' = ev (er 6)) ∨ ((daysIn e L ka kb).length ≤ 1000 ∧ er' = .nilIface ∧ RowI w' v' (daysIn e L ka kb))) ∧ Below w.heap.size w w' := by
  obtain ⟨a6, c6, rfl⟩ := hr.d.shape
  obtain ⟨a9, c9, rfl⟩ := hr.s.shape
  obtain ⟨a10, c10, rfl⟩ := hr.m.shape
  obtain ⟨i0, hi0, hz0, hz1, hz2⟩ := info_parts int_info
  refine (callsIn_wide (n := Rng.dp + 1)).1 ?_
  refine callsIn_of_wp_marks Tryz.func160 rfl trivial ?_ rfl
  simp only [Tryz.ntmps160, List.size_toArray, List.length_cons, List.length_nil, Nat.reduceAdd, Nat.reduceSub, Array.replicate_succ, Array.replicate_zero, List.push_toArray, List.append_toArray, List.nil_append, List.cons_append]
  have hck : ∀ w', Below w.heap.size w w' → Calls Tryz.prog 72 #[.agg (e.cells (.slice a6 e.ru.ds.length c6) (.slice a9 e.sk.length c9) (.slice a10 e.mv.length c10))] w' fun e' w1 => e' = .returned .nilIface ∧ Below w'.heap.size w' w1 := fun w' h => by
    have := check_any e _ _ _ er w' (he.below h) (hr.below h) hz
    rw [hbad] at this
    exact this
  have hall := fun w' => all_any e.st e.ru (.slice a6 e.ru.ds.length c6) w'
  simp only [Ru.val] at hall
  have hgo := fun (d : Int) w' (h : Below w.heap.size w w') => gone_any e _ _ _ d w' (hr.below h) hz.sk hz.mv
  have his := fun (d : Int) w' (h : Below w.heap.size w w') => is_any e.st e.ru _ d L er w' (hG.below h) (he.below h).four (hr.d.below h)
  simp only [Ru.val] at his
  have HCK := Lib.hid hck
  have HALL := Lib.hid hall
  have HGO := Lib.hid hgo
  have HIS := Lib.hid his
  have HR := Lib.hid hr
  have HE := Lib.hid he
  have HG := Lib.hid hG
  have HF := Lib.hid hF
  have HMV := Lib.hid hz.mv
  obtain ⟨n6, hn6⟩ : ∃ n, e.ru.ds.length = n := ⟨_, rfl⟩
  obtain ⟨n9, hn9⟩ : ∃ n, e.sk.length = n := ⟨_, rfl⟩
  obtain ⟨n10, hn10⟩ : ∃ n, e.mv.length = n := ⟨_, rfl⟩
  rw [hn6] at HCK HALL HGO HIS HR HG ⊢
  rw [hn9] at HCK HGO HR ⊢
  rw [hn10] at HCK HGO HR HMV ⊢
  have HN10 := Lib.hid hn10
  obtain ⟨Wa, hWa⟩ : ∃ Wa, ((w.alloc (.cells (e.cells (.slice a6 n6 c6) (.slice a9 n9 c9) (.slice a10 n10 c10)) 40)).alloc (.cells #[.int .i64 ka] 3)).alloc (.cells #[.int .i64 kb] 3) = Wa := ⟨_, rfl⟩
  have hza : Wa.heap.size = w.heap.size + 1 + 1 + 1 := by rw [← hWa]; simp
  have hBa : Below w.heap.size w Wa := by
    rw [← hWa]
    exact (((Below.refl _ w).alloc (Nat.le_refl _) _).alloc (by simp) _).alloc (by simp; omega) _
  have x0 : Wa.heap[w.heap.size]? = some (.cells (e.cells (.slice a6 n6 c6) (.slice a9 n9 c9) (.slice a10 n10 c10)) 40) := by
    rw [← hWa]
    exact (Below.heap_alloc _ _ _ (by simp; omega)).trans ((Below.heap_alloc _ _ _ (by simp)).trans (heap_new w _))
  have b4 : Boxed Wa (w.heap.size + 1) 3 (.int .i64 ka) := by
    have h := (Boxed.new (w.alloc (.cells (e.cells (.slice a6 n6 c6) (.slice a9 n9 c9) (.slice a10 n10 c10)) 40)) 3 (.int .i64 ka)).alloc (.cells #[.int .i64 kb] 3)
    rw [hWa] at h; simpa only [World.size_alloc] using h
  have b5 : Boxed Wa (w.heap.size + 1 + 1) 3 (.int .i64 kb) := by
    have h := Boxed.new ((w.alloc (.cells (e.cells (.slice a6 n6 c6) (.slice a9 n9 c9) (.slice a10 n10 c10)) 40)).alloc (.cells #[.int .i64 ka] 3)) 3 (.int .i64 kb)
    rw [hWa] at h; simpa only [World.size_alloc] using h
  have HWA := Lib.hid hWa
  have HX0 := Lib.hid x0
  clear hr he hG hF hz hbad hck hall hgo his hn6 hn9 hn10 hWa x0
  obtain ⟨k0, k1, k2, k3, k4, k5, k6, k7, k8, k9, k10⟩ := cells11 HX0.out
  gi_wp2_with fail
  rw [HWA.out]
  refine ⟨trivial, (callsIn_wide.2 (HCK.out Wa hBa)).mono ?_⟩
  rintro e1 w1 ⟨rfl, hb1⟩
  have hs1 := hb1.size
  have HB1 := Lib.hid hb1
  have hb1' : Below w1.heap.size w1 (w1.alloc (.cells #[.slice none 0 0] 35)) := (Below.refl _ w1).alloc (Nat.le_refl _) _
  clear hb1 k0 k1 k2 k3 k4 k5 k6 k7 k8 k9 k10
  obtain ⟨k0, k1, k2, k3, k4, k5, k6, k7, k8, k9, k10⟩ := cells11 (row_below (row_below HX0.out HB1.out) hb1')
  gi_wp2_with (refine ⟨trivial, ?_⟩; gi_at_call 204; refine (callsIn_wide.2 (HALL.out _)).mono ?_; rintro e' w2 ⟨rfl, rfl⟩)
  rename_i K hKK
  have hBX := boxes_new e.st e.ru (.slice a6 n6 c6) (w1.alloc (.cells #[.slice none 0 0] 35)) ((HR.out.d.below hBa).below (HB1.out.trans (hb1'.mono hs1))) 3 37
  have bO := ((Boxed.new w1 35 (.slice none 0 0)).alloc (.cells #[.int .i64 e.st] 3)).alloc (.cells #[.string e.ru.fq, .int .i64 e.ru.ev, .slice a6 n6 c6, .int .i64 e.ru.ct, .int .i64 e.ru.un] 37)
  obtain ⟨W0, hW0⟩ : ∃ W0, ((w1.alloc (.cells #[.slice none 0 0] 35)).alloc (.cells #[.int .i64 e.st] 3)).alloc (.cells #[.string e.ru.fq, .int .i64 e.ru.ev, .slice a6 n6 c6, .int .i64 e.ru.ct, .int .i64 e.ru.un] 37) = W0 := ⟨_, rfl⟩
  have hB01 : Below w1.heap.size w1 W0 := by rw [← hW0]; exact (((Below.refl _ w1).alloc (Nat.le_refl _) _).alloc (by simp) _).alloc (by simp; omega) _
  have hz : W0.heap.size = w1.heap.size + 3 := by rw [← hW0]; simp
  rw [World.size_alloc] at hBX
  rw [hW0] at hBX bO ⊢
  have hBw1 : Below w.heap.size w w1 := hBa.trans (HB1.out.mono (by omega))
  have hBw : Below w.heap.size w W0 := hBw1.trans (hB01.mono (by omega))
  have x1 := row_below HX0.out HB1.out
  have b41 := b4.kept (Rng.grownBy_of_below HB1.out) (by simp)
  have b51 := b5.kept (Rng.grownBy_of_below HB1.out) (by simp)
  have hgl : 0 < w.heap.size := cell_lt HE.out.s1.1
  have X1 := Lib.hid x1
  have B41 := Lib.hid b41
  have B51 := Lib.hid b51
  have BO := Lib.hid bO
  have HBX := Lib.hid hBX
  have HB01 := Lib.hid hB01
  have HBW1 := Lib.hid hBw1
  have HZ := Lib.hid hz
  have HZA := Lib.hid hza
  have HLT := Lib.hid (show w.heap.size + 1 + 1 + 1 ≤ w1.heap.size by omega)
  have HS1 := Lib.hid hs1
  have HBW := Lib.hid hBw
  have HKK := Lib.hid hKK
  clear hW0 b4 b5 k0 k1 k2 k3 k4 k5 k6 k7 k8 k9 k10 hBX bO hB01 hBw1 hBw x1 b41 b51 hKK hBa hb1' HB1 HX0 HWA HCK HALL hz hza hs1
  -- what a world is known by that came from w1 with all below w1's size kept
  have hkn : ∀ W', Below w1.heap.size w1 W' → W'.heap[w.heap.size]? = some (.cells (e.cells (.slice a6 n6 c6) (.slice a9 n9 c9) (.slice a10 n10 c10)) 40) ∧ W'.cell? ⟨w.heap.size + 1, 0, none⟩ = some (.int .i64 ka) ∧ W'.cell? ⟨w.heap.size + 1 + 1, 0, none⟩ = some (.int .i64 kb) ∧ Below w.heap.size w W' := fun W' h =>
    ⟨row_below X1.out h, cell_later h B41.out.cell, cell_later h B51.out.cell, HBW1.out.trans (h.mono HBW1.out.size)⟩
  have HKN := Lib.hid hkn
  clear hkn
  have hmid : ∀ (D hi : Nat) (out : List Int) (W' : World), W0.heap.size ≤ D → D < hi → hi ≤ W'.heap.size → Holds w1.heap.size hi out W' → Got e L ka kb out → out.length ≤ 1001 → Rng.Stay (fun b => b = w1.heap.size) W0.heap.size W0 W' → W'.heap[D]? = some (.deferred (some [])) →
      K { tmps := #[.agg (e.cells (.slice a6 n6 c6) (.slice a9 n9 c9) (.slice a10 n10 c10)), .int .i64 ka, .int .i64 kb, .pointer (some ⟨w.heap.size, 0, none⟩), .pointer (some ⟨w.heap.size + 1, 0, none⟩), .pointer (some ⟨w.heap.size + 1 + 1, 0, none⟩), .slice none 0 0, .nilIface, .nilIface, .pointer (some ⟨w1.heap.size, 0, none⟩), undef, undef, undef, .agg #[.string e.id, .string e.ti, .int .i64 e.st, .int .i64 e.lg, .string e.ru.fq, .int .i64 e.ru.ev, .slice a6 n6 c6, .int .i64 e.ru.ct, .int .i64 e.ru.un, .slice a9 n9 c9, .slice a10 n10 c10], .nilIface, .nilIface, .bool false, undef, .pointer (some ⟨w.heap.size, 2, none⟩), .int .i64 e.st, .pointer (some ⟨w.heap.size, 4, none⟩), .agg #[.string e.ru.fq, .int .i64 e.ru.ev, .slice a6 n6 c6, .int .i64 e.ru.ct, .int .i64 e.ru.un], .func (.func 249) #[] (la (w1.heap.size + 1 + 1) (w1.heap.size + 1)), undef, undef, undef, undef, undef, undef, undef, undef, undef, undef, undef, undef, undef, undef, undef, undef, undef, undef, undef, undef, undef, undef, undef, undef, undef, undef, undef, undef, undef, undef, undef, undef, undef, undef, undef, undef, undef, undef, undef, undef, undef, undef, undef, undef, undef, undef, undef, undef, undef, undef, undef, undef, undef, undef, undef, undef, undef, undef, undef, undef, undef, undef, undef], defers := [{ target := .collected D, args := #[] }] } W' := by
    intro D hi out W' hD hDh hsz hh hgot hlen hst hK
    have hzz := HZ.out
    have hbW := HB01.out.trans (stay_below hst (fun b h => by omega) (by omega) (by omega) : Below w1.heap.size W0 W')
    have hh0 : Holds w1.heap.size (w1.heap.size + 1) out W' := holds_mono hh (by omega)
    have hszW : w1.heap.size + 1 ≤ W'.heap.size := by omega
    have HBWW := Lib.hid hbW
    have HH0 := Lib.hid hh0
    have HGOT := Lib.hid hgot
    have HLEN := Lib.hid hlen
    have HK := Lib.hid hK
    have HD := Lib.hid (show w1.heap.size + 1 ≤ D by omega)
    have HSW := Lib.hid hszW
    obtain ⟨xr, -, -, -⟩ := HKN.out W' hbW
    obtain ⟨k0, k1, k2, k3, k4, k5, k6, k7, k8, k9, k10⟩ := cells11 xr
    refine HKK.out _ _ ?_
    clear hzz hbW hh0 hgot hlen hst hK hh hD hDh hsz hszW xr
    gi_wp2_with fail
    gi_loopw [48] (fun p wr => ∃ k : Nat, k ≤ n10 ∧ p = .int .i64 (k : Int) ∧ Holds w1.heap.size (w1.heap.size + 1) (out ++ movesIn (e.mv.take k) L ka kb) wr ∧ Rng.Stay (fun b => b = w1.heap.size) (w1.heap.size + 1) W' wr) (fun p _ => n10 - (intOf p).toNat)
    case atStart => exact ⟨0, Nat.zero_le _, rfl, by simpa [movesIn] using HH0.out, Rng.Stay.refl _ _ _⟩
    case round =>
      obtain ⟨k, hk, rfl, hh, hst⟩ := hrel
      have hsw := HSW.out
      have hn10 := HMV.out
      have hbr := HBWW.out.trans (stay_below hst (fun b h => by omega) (by omega) (by omega) : Below w1.heap.size W' _)
      obtain ⟨xr, y4, y5, hbw⟩ := HKN.out _ hbr
      have hszr : w1.heap.size + 1 ≤ wr.heap.size := Nat.le_trans hsw hst.size
      obtain ⟨j0, j1, j2, j3, j4, j5, j6, j7, j8, j9, j10⟩ := cells11 xr
      obtain ⟨a, c, hbx, hown, _⟩ := holds_reads hh
      have yO := hbx.cell
      have HH := Lib.hid hh
      have HST := Lib.hid hst
      have HBR := Lib.hid hbr
      have HBWR := Lib.hid hbw
      have HBXR := Lib.hid hbx
      have HOWN := Lib.hid hown
      have HSZR := Lib.hid hszr
      have HXR := Lib.hid xr
      clear hsw hbx hh hst hbr xr hszr
      by_cases hlt : k < n10
      · obtain ⟨-, b, o, ha9, hc⟩ := (HR.out.m.below hbw).at (by intro h; have := HN10.out; rw [h] at this; simp at this; omega)
        subst ha9
        obtain ⟨c1, c2⟩ := hc k (by rw [HN10.out]; exact hlt)
        have htk : e.mv.take (k + 1) = e.mv.take k ++ [ml e.mv k] := by
          rw [List.take_succ_eq_append_getElem (by rw [HN10.out]; exact hlt), ml_lt (by rw [HN10.out]; exact hlt)]
        obtain ⟨m, hm⟩ : ∃ m, ml e.mv k = m := ⟨_, rfl⟩
        rw [hm] at c1 c2 htk
        obtain ⟨m1, m2⟩ := m
        simp only at c1 c2
        have hsn := movesIn_snoc (e.mv.take k) (m1, m2) L ka kb
        rw [← htk] at hsn
        simp only at hsn
        have hos : (out ++ movesIn (e.mv.take k) L ka kb).length ≤ 3000000 := by
          have h1 := HLEN.out
          have h2 := HMV.out
          have h3 : (movesIn (e.mv.take k) L ka kb).length ≤ k := by
            unfold movesIn
            rw [List.length_map]
            exact Nat.le_trans (List.length_filter_le _ _) (by rw [List.length_take]; omega)
          rw [List.length_append]; omega
        have HOS := Lib.hid hos
        have hlt' : (k : Int) < (n10 : Int) := by omega
        clear hc htk hm hbw hown hos
        -- nothing is taken, in a world above this one
        have hno : ∀ wx, Below wr.heap.size wr wx → movesIn (e.mv.take (k + 1)) L ka kb = movesIn (e.mv.take k) L ka kb → Holds w1.heap.size (w1.heap.size + 1) (out ++ movesIn (e.mv.take (k + 1)) L ka kb) wx ∧ Rng.Stay (fun b => b = w1.heap.size) (w1.heap.size + 1) W' wx := fun wx hx he =>
          ⟨by rw [he]; exact holds_below HH.out hx, HST.out.trans (Rng.Stay.of_below hx)⟩
        have HNO := Lib.hid hno
        have hal : Below wr.heap.size wr (wr.alloc (.cells #[.int .i64 m1, .int .i64 m2] 95)) := (Below.refl _ wr).alloc (Nat.le_refl _) _
        have HAL := Lib.hid hal
        have hszr := HSZR.out
        obtain ⟨xr2, z4, z5, -⟩ := HKN.out _ (HBR.out.trans (hal.mono (by omega)))
        obtain ⟨i0, i1, i2, i3, i4, i5, i6, i7, i8, i9, i10⟩ := cells11 xr2
        have zO := (HBXR.out.alloc (.cells #[.int .i64 m1, .int .i64 m2] 95)).cell
        clear hno hal hszr xr2 y4 y5 yO
        by_cases h1 : ka ≤ m2
        case neg =>
          have hd : (decide (ka ≤ m2 ∧ m2 ≤ kb) && isB L m1) = false := by rw [decide_eq_false (by omega)]; rfl
          rw [hd, if_neg (by simp), List.append_nil] at hsn
          have HSN := Lib.hid hsn
          have hb1 := decide_eq_false h1
          clear hsn hd h1
          gi_wp2
          refine ⟨trivial, ?_⟩
          gi_wp2
          go_roundw
          case rel => obtain ⟨e1, e2⟩ := HNO.out _ HAL.out HSN.out; (first | exact ⟨k + 1, by omega, by go_num, e1, e2⟩ | ((repeat apply Exists.intro); exact ⟨⟨k + 1, by omega, by go_num, e1, e2⟩, rfl⟩))
          case measure => simp [intOf]; omega
        by_cases h2 : m2 ≤ kb
        case neg =>
          have hd : (decide (ka ≤ m2 ∧ m2 ≤ kb) && isB L m1) = false := by rw [decide_eq_false (by omega)]; rfl
          rw [hd, if_neg (by simp), List.append_nil] at hsn
          have HSN := Lib.hid hsn
          have hb1 := decide_eq_true h1
          have hb2 := decide_eq_false h2
          clear hsn hd h1 h2
          gi_wp2
          refine ⟨trivial, ?_⟩
          gi_wp2
          go_roundw
          case rel => obtain ⟨e1, e2⟩ := HNO.out _ HAL.out HSN.out; (first | exact ⟨k + 1, by omega, by go_num, e1, e2⟩ | ((repeat apply Exists.intro); exact ⟨⟨k + 1, by omega, by go_num, e1, e2⟩, rfl⟩))
          case measure => simp [intOf]; omega
        have hd : decide (ka ≤ m2 ∧ m2 ≤ kb) = true := decide_eq_true ⟨h1, h2⟩
        rw [hd, Bool.true_and] at hsn
        have hic := fun wx (hx : Below wr.heap.size wr wx) => HIS.out m1 wx (HBWR.out.trans (hx.mono HBWR.out.size))
        obtain ⟨q, hq⟩ : ∃ q, isB L m1 = q := ⟨_, rfl⟩
        rw [hq] at hsn hic
        have HIC := Lib.hid hic
        have HSN := Lib.hid hsn
        have hb1 := decide_eq_true h1
        have hb2 := decide_eq_true h2
        clear hsn hic hq hd h1 h2
        gi_wp2_with fail
        refine ⟨trivial, (callsIn_wide.2 (HIC.out _ HAL.out)).mono ?_⟩
        rintro e2 w2 ⟨rfl, hb2⟩
        have HB2 := Lib.hid (HAL.out.trans (hb2.mono HAL.out.size))
        have HBM := Lib.hid hb2
        clear hb2 j0 j1 j2 j3 j4 j5 j6 j7 j8 j9 j10 i0 i1 i2 i3 i4 i5 i6 i7 i8 i9 i10 z4 z5 zO c1 c2
        cases q with
        | false =>
          have hsn := HSN.out
          rw [if_neg (by simp), List.append_nil] at hsn
          have HSN2 := Lib.hid hsn
          clear hsn
          gi_wp2
          go_roundw
          case rel => obtain ⟨e1, e2⟩ := HNO.out _ HB2.out HSN2.out; (first | exact ⟨k + 1, by omega, by go_num, e1, e2⟩ | ((repeat apply Exists.intro); exact ⟨⟨k + 1, by omega, by go_num, e1, e2⟩, rfl⟩))
          case measure => simp [intOf]; omega
        | true =>
          have hsn := HSN.out
          rw [if_pos (by simp)] at hsn
          have HSN2 := Lib.hid hsn
          have bx2 := HBXR.out.kept (Rng.grownBy_of_below HB2.out) (by simp)
          have hmc : w2.cell? ⟨wr.heap.size, 0, none⟩ = some (.int .i64 m1) ∧ w2.cell? ⟨wr.heap.size, 1, none⟩ = some (.int .i64 m2) := ⟨cell_later HBM.out (cell_of (heap_new wr _) rfl), cell_later HBM.out (cell_of (heap_new wr _) rfl)⟩
          obtain ⟨mc1, mc2⟩ := hmc
          have yO := bx2.cell
          have HBX2 := Lib.hid bx2
          obtain ⟨S, hS⟩ : ∃ S, out ++ movesIn (e.mv.take k) L ka kb = S := ⟨_, rfl⟩
          rw [hS] at yO HBX2 HOWN HOS HH
          have HOWN2 := Lib.hid (own_below HOWN.out HB2.out)
          have HS := Lib.hid hS
          clear hsn bx2 hS
          gi_wp2_with (gi_at_builtin
                       refine append_box rfl (.tmp 71) (.tmp 74) rfl w1.heap.size (w1.heap.size + 1) S a c m2 rfl HBX2.out HOWN2.out rfl (fun b => b = w1.heap.size) rfl HOS.out (Nat.le_trans HSZR.out HB2.out.size) ?_
                       intro a1 c1 wz hbz hhz hstz
                       have z1 := hbz.cell
                       have z2 := hbz.frozen
                       have HHZ := Lib.hid hhz
                       have HSTZ := Lib.hid hstz
                       clear hbz hhz hstz)
          go_roundw
          case rel =>
            have e0 : out ++ movesIn (e.mv.take (k + 1)) L ka kb = S ++ [m2] := by rw [HSN2.out, ← List.append_assoc, HS.out]
            have e1 := HHZ.out
            rw [← e0] at e1
            have e2 := (HST.out.trans (Rng.Stay.of_below HB2.out)).trans HSTZ.out
            first | exact ⟨k + 1, by omega, by go_num, e1, e2⟩ | ((repeat apply Exists.intro); exact ⟨⟨k + 1, by omega, by go_num, e1, e2⟩, rfl⟩)
          case measure => simp [intOf]; omega
      · obtain rfl : k = n10 := by omega
        have htk : e.mv.take k = e.mv := by rw [← HN10.out, List.take_length]
        rw [htk] at hown yO HBXR HOWN HH
        have hos : (out ++ movesIn e.mv L ka kb).length ≤ 3000000 := by
          have h1 := HLEN.out
          have h2 := HMV.out
          have h3 : (movesIn e.mv L ka kb).length ≤ e.mv.length := by
            unfold movesIn
            rw [List.length_map]
            exact List.length_filter_le _ _
          have h4 := HN10.out
          rw [List.length_append]; omega
        have hrow := rowI_own hown
        obtain ⟨S, hS⟩ : ∃ S, out ++ movesIn e.mv L ka kb = S := ⟨_, rfl⟩
        rw [hS] at yO HBXR HOWN HH hrow hos
        have HS := Lib.hid hS
        have HSO := Lib.hid (sort_any _ S wr hrow hos)
        have HOS := Lib.hid hos
        clear hown htk hrow hS hos hbw j0 j1 j2 j3 j4 j5 j6 j7 j8 j9 j10
        gi_wp2_with fail
        refine ⟨trivial, (callsIn_wide.2 HSO.out).mono ?_⟩
        rintro e5 w5 ⟨rfl, hr5, hg5⟩
        have hkr : wr.heap[D]? = some (.deferred (some [])) := HST.out.same D _ HK.out (.inl rfl)
        have hge : ∀ j, (Value.slice a S.length c).ownBlock = some j → w1.heap.size + 1 ≤ j := fun j ej => own_ge HOWN.out ej
        have hne : some w1.heap.size ≠ (Value.slice a S.length c).ownBlock := fun ej => by have := hge _ ej.symm; omega
        have hneD : some D ≠ (Value.slice a S.length c).ownBlock := own_not HOWN.out hkr
        have hk5 : w5.heap[D]? = some (.deferred (some [])) := (hg5.block D (row_lt hkr) hneD).trans hkr
        have bx5 := HBXR.out.kept hg5 hne
        have hb5 : Below w1.heap.size w1 w5 := HBR.out.trans ((Below.refl _ wr).grown hg5 (by have := HSZR.out; omega) (fun j ej => by have := hge j ej; omega))
        have yO5 := bx5.cell
        have HCO := Lib.hid (compact_any _ _ w5 hr5 (by rw [sort_len]; exact HOS.out))
        have HGE := Lib.hid hge
        have HNE := Lib.hid hne
        have HNED := Lib.hid hneD
        have HK5 := Lib.hid hk5
        have HBX5 := Lib.hid bx5
        have HB5 := Lib.hid hb5
        clear hr5 hg5 hkr hge hne hneD hk5 bx5 hb5 yO
        gi_wp2_with fail
        refine ⟨trivial, (callsIn_wide.2 HCO.out).mono ?_⟩
        rintro e6 w6 ⟨v6, rfl, hr6, hob, hg6⟩
        have hk6 : w6.heap[D]? = some (.deferred (some [])) := (hg6.block D (row_lt HK5.out) HNED.out).trans HK5.out
        have bx6 := HBX5.out.kept hg6 HNE.out
        have hb6 : Below w1.heap.size w1 w6 := HB5.out.trans ((Below.refl _ w5).grown hg6 (by have := HB5.out.size; omega) (fun j ej => by have := HGE.out j ej; omega))
        obtain ⟨a6x, c6x, rfl⟩ := hr6.shape
        have hr7 := hr6.set (u := .slice a6x (Lib.compact (S.mergeSort fun x y => decide (x ≤ y))).length c6x) (b := w1.heap.size) (by rw [hob]; exact HNE.out)
        have hr8 := fun (o : Obj) => hr7.put (D := D) (o := o) (by rw [hob]; exact HNED.out)
        obtain ⟨U, hU⟩ : ∃ U, Lib.compact (S.mergeSort fun x y => decide (x ≤ y)) = U := ⟨_, rfl⟩
        have hUu : Cpt.uniq (out ++ movesIn e.mv L ka kb) = U := by rw [HS.out]; exact hU
        rw [hU] at hr8 ⊢
        have hlaw := days_law HF.out HGOT.out
        rw [hUu] at hlaw
        have y6 := bx6.cell
        have f6 := bx6.frozen
        have bx7 := bx6.set (.slice a6x U.length c6x)
        have y7 := bx7.cell
        have hk7 : (w6.setCell ⟨w1.heap.size, 0, none⟩ (.slice a6x U.length c6x)).heap[D]? = some (.deferred (some [])) := by
          have := HD.out
          rw [Below.heap_setCell _ _ _ _ (by show D ≠ w1.heap.size; omega)]; exact hk6
        have hb7 : Below w1.heap.size w1 (w6.setCell ⟨w1.heap.size, 0, none⟩ (.slice a6x U.length c6x)) := hb6.setCell (p := ⟨w1.heap.size, 0, none⟩) (Nat.le_refl _) _
        have hff := (HE.out.below (HBW1.out.trans (hb7.mono HBW1.out.size))).s6.1
        have HR8 := Lib.hid hr8
        have HLAW := Lib.hid hlaw
        have HK7 := Lib.hid hk7
        have HB7 := Lib.hid hb7
        clear hr6 hob hg6 hk6 hb6 hr7 hr8 hU hUu hlaw bx6 bx7 hk7 hb7 yO5
        by_cases hu : (1000 : Int) < (U.length : Int)
        · have HU := Lib.hid hu
          gi_wp2
          gi_quiet (fail)
          all_goals gi_wp2
          all_goals (
            have hwD : w.heap.size ≤ D := by have := HD.out; have := HLT.out; omega
            refine ⟨by simp, .inl ⟨_, _, rfl, run_takeDeferred (show _ from HK7.out), ?_⟩⟩
            refine ⟨.tuple #[.slice none 0 0, ev (er 6)], ?_, _, _, rfl, .inl ⟨?_, rfl, rfl⟩, ?_⟩
            · simp [results, Tryz.f160, go_sem]
            · have := HU.out
              rcases HLAW.out with ⟨_, h⟩ | h
              · exact h
              · rw [← h]; omega
            · exact (below_draw (HBW1.out.trans (HB7.out.mono HBW1.out.size)) nq).trans (belowK_b (w := w) (Nat.le_refl _) (World.drewN _ nq) D _ _ hwD (show _ from HK7.out) rfl rfl))
        · have HU := Lib.hid hu
          gi_wp2
          have hwD : w.heap.size ≤ D := by have := HD.out; have := HLT.out; omega
          refine ⟨by simp, .inl ⟨_, _, rfl, run_takeDeferred (show _ from HK7.out), ?_⟩⟩
          have hUe : U = daysIn e L ka kb := by
            have := HU.out
            rcases HLAW.out with ⟨h, _⟩ | h
            · omega
            · exact h
          refine ⟨.tuple #[.slice a6x U.length c6x, .nilIface], ?_, _, _, rfl, .inr ⟨by rw [← hUe]; have := HU.out; omega, rfl, ?_⟩, ?_⟩
          · simp [results, Tryz.f160, go_sem]
          · rw [← hUe]; exact HR8.out _
          · exact (HBW1.out.trans (HB7.out.mono HBW1.out.size)).trans (belowK_b (w := w) (Nat.le_refl _) _ D _ _ hwD HK7.out rfl rfl)
  have HMID := Lib.hid hmid
  clear hmid HKK
  refine Rng.range_law (n := Rng.dp + 1) (by decide) (gf := 249) (lb := la (w1.heap.size + 1 + 1) (w1.heap.size + 1)) rfl (enters_of Tryz.func249 (by kernel_rfl) rfl)
    (HG.out W0 _ _ HBW.out HBX.out) (Below.refl _ _) (fun _ => rfl) (fun b => b = w1.heap.size) (fun b hb => by have := HZ.out; omega) ?hR
    (fun hi pre W' => (Holds w1.heap.size hi (ruleIn e pre ka kb) W' ∧ hi ≤ W'.heap.size) ∧ Rng.Stay (fun b => b = w1.heap.size) W0.heap.size W0 W' ∧ (∀ x ∈ pre, x ≤ kb) ∧ (ruleIn e pre ka kb).length ≤ 1001)
    (fun c hi pre W' => c = .exit 0 ∧ ∃ p x, pre = p ++ [x] ∧ (kb < x ∨ 1000 < (ruleIn e p ka kb).length) ∧ (Holds w1.heap.size hi (ruleIn e p ka kb) W' ∧ hi ≤ W'.heap.size) ∧ Rng.Stay (fun b => b = w1.heap.size) W0.heap.size W0 W' ∧ (∀ x ∈ p, x ≤ kb) ∧ (ruleIn e p ka kb).length ≤ 1001)
    ?hI ?hIx ?h0 (fun x => { tmps := #[.agg (e.cells (.slice a6 n6 c6) (.slice a9 n9 c9) (.slice a10 n10 c10)), .int .i64 ka, .int .i64 kb, .pointer (some ⟨w.heap.size, 0, none⟩), .pointer (some ⟨w.heap.size + 1, 0, none⟩), .pointer (some ⟨w.heap.size + 1 + 1, 0, none⟩), .slice none 0 0, .nilIface, .nilIface, .pointer (some ⟨w1.heap.size, 0, none⟩), .int .i64 x, undef, undef, .agg #[.string e.id, .string e.ti, .int .i64 e.st, .int .i64 e.lg, .string e.ru.fq, .int .i64 e.ru.ev, .slice a6 n6 c6, .int .i64 e.ru.ct, .int .i64 e.ru.un, .slice a9 n9 c9, .slice a10 n10 c10], .nilIface, .nilIface, .bool false, undef, .pointer (some ⟨w.heap.size, 2, none⟩), .int .i64 e.st, .pointer (some ⟨w.heap.size, 4, none⟩), .agg #[.string e.ru.fq, .int .i64 e.ru.ev, .slice a6 n6 c6, .int .i64 e.ru.ct, .int .i64 e.ru.un], .func (.func 249) #[] (la (w1.heap.size + 1 + 1) (w1.heap.size + 1)), .int .i64 x, undef, undef, undef, undef, undef, undef, undef, undef, undef, undef, undef, undef, undef, undef, undef, undef, undef, undef, undef, undef, undef, undef, undef, undef, undef, undef, undef, undef, undef, undef, undef, undef, undef, undef, undef, undef, undef, undef, undef, undef, undef, undef, undef, undef, undef, undef, undef, undef, undef, undef, undef, undef, undef, undef, undef, undef, undef, undef, undef, undef, undef, undef], defers := [] }) ?assign ?body ?done ?stop
  case hR =>
    refine ⟨fun h => by omega, fun h => by omega, ?_, fun b h => by have := HLT.out; omega⟩
    intro b o m c hv hm h
    have := reads_lt HR.out.d hv hm
    have := HLT.out
    omega
  case hI =>
    have := HZ.out
    exact rng_and (rng_and (rng_rule e ka kb (by omega)) rng_size) (rng_and (rng_stay _ _ _) (rng_const (fun pre => (∀ x ∈ pre, x ≤ kb) ∧ (ruleIn e pre ka kb).length ≤ 1001)))
  case hIx =>
    have hzz := HZ.out
    intro c hi s A B row hB hs hg hr
    obtain ⟨hc, p, x, e1, hx, ⟨hh, hsz⟩, hst, h3, h4⟩ := hs
    refine ⟨hc, p, x, e1, hx, ⟨holds_kept hh hg (fun r e => by have := (hr r e).1; omega) (fun r e => (hr r e).2), Nat.le_trans hsz hg.size⟩, rng_stay _ _ _ hi s A B row hB hst hg hr, h3, h4⟩
  case h0 =>
    intro W' hW'
    have := HZ.out
    refine ⟨⟨⟨.slice none 0 0, BO.out.kept (Rng.grownBy_of_below hW') (by simp), by simp [ruleIn, cellsOf], .inl ⟨rfl, rfl⟩⟩, Nat.le_refl _⟩, Rng.Stay.of_below hW', by simp, by simp [ruleIn]⟩
  case assign =>
    intro l2 x W' K hK
    gi_wp2
    exact hK
  case body =>
    rintro hi l2 pre x W' hhi ⟨⟨hh, hsz⟩, hst, hle, hln⟩ hlen
    have hzz := HZ.out
    have hbW := HB01.out.trans (stay_below hst (fun b h => by omega) (by omega) (by omega) : Below w1.heap.size W0 W')
    obtain ⟨xr, y4, y5, hbw⟩ := HKN.out W' hbW
    obtain ⟨k0, k1, k2, k3, k4, k5, k6, k7, k8, k9, k10⟩ := cells11 xr
    obtain ⟨a, c, hbx, hown, _⟩ := holds_reads hh
    have yO := hbx.cell
    have HST := Lib.hid hst
    have HH := Lib.hid hh
    have HBX2 := Lib.hid hbx
    have HOWN := Lib.hid hown
    have HSZ := Lib.hid hsz
    have HLE := Lib.hid hle
    have HLN := Lib.hid hln
    have HHI := Lib.hid hhi
    have HBWW := Lib.hid hbw
    clear hst hh hbx hown hsz hle hhi hbw hbW xr hzz
    by_cases h1 : kb < x
    · gi_wp2
      exact ⟨rest_refl _ _, rfl, pre, x, rfl, .inl h1, ⟨HH.out, HSZ.out⟩, HST.out, HLE.out, HLN.out⟩
    have hle2 : ∀ z ∈ pre ++ [x], z ≤ kb := fun z hz => by
      rcases List.mem_append.1 hz with hz | hz
      · exact HLE.out z hz
      · simp at hz; omega
    have HLE2 := Lib.hid hle2
    clear hle2
    by_cases h2 : (1000 : Int) < ((ruleIn e pre ka kb).length : Int)
    · have H2 := Lib.hid h2
      gi_wp2
      exact ⟨rest_refl _ _, rfl, pre, x, rfl, .inr (by have := H2.out; omega), ⟨HH.out, HSZ.out⟩, HST.out, HLE.out, HLN.out⟩
    have hsn := ruleIn_snoc e pre x ka kb
    by_cases h3 : ka ≤ x
    case neg =>
      have hd : (decide (ka ≤ x ∧ x ≤ kb) && !goneB e x) = false := by rw [decide_eq_false (by omega)]; rfl
      rw [hd, if_neg (by simp), List.append_nil] at hsn
      have HSN := Lib.hid hsn
      have h3b := decide_eq_false h3
      clear hsn hd h3
      gi_wp2
      refine ⟨trivial, ?_⟩
      gi_wp2
      exact ⟨Rng.Stay.refl _ _ _, ⟨by rw [HSN.out]; exact HH.out, HSZ.out⟩, HST.out, HLE2.out, by rw [HSN.out]; exact HLN.out⟩
    have hd : decide (ka ≤ x ∧ x ≤ kb) = true := decide_eq_true (by omega)
    have h3b := decide_eq_true h3
    rw [hd, Bool.true_and] at hsn
    have hgc := HGO.out x W' HBWW.out
    obtain ⟨q, hq⟩ : ∃ q, goneB e x = q := ⟨_, rfl⟩
    rw [hq] at hsn hgc
    have HGC := Lib.hid hgc
    have HSN := Lib.hid hsn
    have HLM := Lib.hid (show (ruleIn e pre ka kb).length ≤ 1000 by omega)
    obtain ⟨S, hS⟩ : ∃ S, ruleIn e pre ka kb = S := ⟨_, rfl⟩
    rw [hS] at yO HBX2 HOWN HLM HH HSN h2
    have HS := Lib.hid hS
    clear hsn hgc hq hd hS hln
    gi_wp2_with fail
    refine ⟨trivial, (CallsIn.inRound l2 (callsIn_wide.2 HGC.out)).mono ?_⟩
    rintro e2 w2 ⟨rfl, hb2⟩
    have HS2 := Lib.hid hb2.size
    have HB2 := Lib.hid hb2
    have bx2 := HBX2.out.kept (Rng.grownBy_of_below hb2) (by simp)
    have yO2 := bx2.cell
    have HBX3 := Lib.hid bx2
    have HOWN3 := Lib.hid (own_below HOWN.out hb2)
    have HSTN := Lib.hid (HST.out.trans (Rng.Stay.of_below hb2))
    clear hb2 bx2 k0 k1 k2 k3 k4 k5 k6 k7 k8 k9 k10 yO y4 y5
    cases q with
    | true =>
      have hsn := HSN.out
      rw [if_neg (by simp), List.append_nil] at hsn
      have HSN2 := Lib.hid hsn
      clear hsn
      gi_wp2
      exact ⟨Rng.Stay.of_below HB2.out, ⟨by rw [HSN2.out]; exact holds_below HH.out HB2.out, Nat.le_trans HSZ.out HS2.out⟩, HSTN.out, HLE2.out, by rw [HSN2.out]; have := HLM.out; omega⟩
    | false =>
      have hsn := HSN.out
      rw [if_pos (by simp)] at hsn
      have HSN2 := Lib.hid hsn
      clear hsn
      gi_wp2_with (gi_at_builtin
                   refine append_box rfl (.tmp 41) (.tmp 43) rfl w1.heap.size hi S a c x rfl HBX3.out HOWN3.out rfl (fun b => b = w1.heap.size) rfl (by have := HLM.out; omega) (Nat.le_trans HSZ.out HS2.out) ?_
                   intro a1 c1 wz hbz hhz hstz
                   have z1 := hbz.cell
                   have z2 := hbz.frozen
                   have HHZ := Lib.hid hhz
                   have HSTZ := Lib.hid hstz
                   clear hbz hhz hstz)
      have hs3 := HSTZ.out.size
      have hs2 := HS2.out
      refine ⟨(Rng.Stay.of_below HB2.out).trans HSTZ.out, ⟨by rw [HSN2.out]; exact HHZ.out, Nat.le_trans HSZ.out (Nat.le_trans hs2 hs3)⟩, HSTN.out.trans (HSTZ.out.mono (fun _ _ h => h) (by have := HHI.out; omega)), HLE2.out, by rw [HSN2.out, List.length_append]; have := HLM.out; simp; omega⟩
  case done =>
    rintro D hi xs W' hD hDh rfl ⟨⟨hh, hsz⟩, hst, hle, hln⟩ hK
    exact HMID.out D hi _ W' hD hDh hsz hh (.inl rfl) hln hst hK
  case stop =>
    rintro D hi c pre W' hD hDh hpre ⟨rfl, p, x, rfl, hx, ⟨hh, hsz⟩, hst, hle, hln⟩ hK
    have hgot : Got e L ka kb (ruleIn e p ka kb) := by
      rcases hx with hx | hx
      · exact .inl (ruleIn_stop HF.out.rise hpre hx).symm
      · exact .inr ⟨hx, ruleIn_pre ((List.prefix_append _ _).trans hpre)⟩
    have := HMID.out D hi _ W' hD hDh hsz hh hgot hln hst hK
    clear hst hh hgot
    gi_wp2
    exact this
end Evt
end Go.Proofs.YtghkalamlcfnnaaGreatDoor
end

section
/- package event: Days of any event, Covers. -/
namespace Go.Proofs.YtghkalamlcfnnaaGreatDoor
open Go Go.RowKit Go.Shelf Lmd
attribute [local go_sem] Oper.semAt_some
namespace Evt
open Rul Day Cand Er

/-- the days of an event's rule, its start's date given -/
def evL (e : Ev) (y m d : Int) : List Int := daysOf e.ru.ct e.ru.un (cands e.st y m d e.ru)
theorem right_iff {d : Int} : rightB d = true ↔ 0 ≤ d ∧ d ≤ 73048 := by unfold rightB inB; exact decide_eq_true_iff
theorem fit_of {e : Ev} {y m d : Int} (h : badE e = 0) (ha : Cal.At e.st y m d) : Fit e (evL e y m d) := by
  obtain ⟨_, _, hst, _, hru, hl⟩ := badE_zero h
  obtain ⟨_, hb, hd, _, hr⟩ := bad_parts hru
  have hev := (bound_parts hb).1.1
  have hc := cands_rise (start := e.st) (y := y) (m := m) (d := d) hev hr hd
  refine ⟨hc.sublist (daysOf_sub _ _ _), fun x hx => ?_, fun mm hm => ?_⟩
  · have := cands_bd ha hev x ((daysOf_sub _ _ _).subset hx)
    omega
  · have h6 := List.all_eq_true.1 (badL_zero hl).2.2.2.2.2.1 mm hm
    rw [Bool.and_eq_true] at h6
    exact right_iff.1 h6.2
theorem gives_of {e : Ev} {y m d : Int} (h : badE e = 0) (ha : Cal.At e.st y m d) (v : Value) (er : Nat → Addr) (w : World) (he : E4 w er) (hl : e.ru.ds.length < 50000) : Gives e.st e.ru v (evL e y m d) w :=
  gives_all e.st y m d e.ru v er w he (badE_zero h).2.2.2.2.1 hl ha

/-- is a day covered by an event, whatever it is -/
def coversB (e : Ev) (y m d n : Int) : Bool := decide (badE e = 0) && covB e (evL e y m d) n
set_option maxRecDepth 100000 in
set_option maxHeartbeats 4000000 in
theorem covers_any (e : Ev) (vd vs vm : Value) (y m d dd : Int) (er : Nat → Addr) (w : World) (he : E7 w er) (hr : Rv w e vd vs vm) (hz : Size e) (ha : badE e = 0 → Cal.At e.st y m d) :
    Calls Tryz.prog 107 #[.agg (e.cells vd vs vm), .int .i64 dd] w fun r w' => r = .returned (.bool (coversB e y m d dd)) ∧ Below w.heap.size w w' := by
  obtain ⟨a6, c6, rfl⟩ := hr.d.shape
  obtain ⟨a9, c9, rfl⟩ := hr.s.shape
  obtain ⟨a10, c10, rfl⟩ := hr.m.shape
  have hck := fun w' (h : Below w.heap.size w w') => check_any e _ _ _ er w' (he.below h) (hr.below h) hz
  obtain ⟨q, hq⟩ : ∃ q, badE e = q := ⟨_, rfl⟩
  have hdg := fun (h0 : badE e = 0) w' (h : Below w.heap.size w w') => days_good e _ _ _ (dd - e.lg + 1) dd (evL e y m d) er w' (he.below h) (hr.below h) hz h0 (gives_of h0 (ha h0) _ er w' (he.below h).four hz.ds) (fit_of h0 (ha h0))
  have hlen := fun (h0 : badE e = 0) => in_len (a := dd - e.lg + 1) (b := dd) (fit_of h0 (ha h0))
  have hlg := fun (h0 : badE e = 0) => (badE_zero h0).2.2.2.1
  obtain ⟨r, hrr⟩ : ∃ r, coversB e y m d dd = r := ⟨_, rfl⟩
  have hrr2 : (decide (badE e = 0) && (rightB dd && decide (daysIn e (evL e y m d) (dd - e.lg + 1) dd ≠ []))) = r := hrr
  have hR := fun W => right_any dd W
  obtain ⟨q2, hq2⟩ : ∃ q, rightB dd = q := ⟨_, rfl⟩
  have hq2' : decide (0 ≤ dd ∧ dd ≤ 73048) = q2 := hq2
  rw [hq2'] at hR
  rw [hq2] at hrr2
  rw [hrr]
  obtain ⟨DL, hDL⟩ : ∃ DL, daysIn e (evL e y m d) (dd - e.lg + 1) dd = DL := ⟨_, rfl⟩
  rw [hDL] at hdg hlen hrr2
  rw [hq] at hck hdg hlen hlg hrr2
  obtain ⟨n6, hn6⟩ : ∃ n, e.ru.ds.length = n := ⟨_, rfl⟩
  obtain ⟨n9, hn9⟩ : ∃ n, e.sk.length = n := ⟨_, rfl⟩
  obtain ⟨n10, hn10⟩ : ∃ n, e.mv.length = n := ⟨_, rfl⟩
  rw [hn6] at hck hdg ⊢
  rw [hn9] at hck hdg ⊢
  rw [hn10] at hck hdg ⊢
  obtain ⟨Wa, hWa⟩ : ∃ Wa, w.alloc (.cells (e.cells (.slice a6 n6 c6) (.slice a9 n9 c9) (.slice a10 n10 c10)) 40) = Wa := ⟨_, rfl⟩
  have hBa : Below w.heap.size w Wa := by rw [← hWa]; exact (Below.refl _ w).alloc (Nat.le_refl _) _
  have x0 : Wa.heap[w.heap.size]? = some (.cells (e.cells (.slice a6 n6 c6) (.slice a9 n9 c9) (.slice a10 n10 c10)) 40) := by rw [← hWa]; exact heap_new w _
  have HCK := Lib.hid hck
  have HWA := Lib.hid hWa
  have HBA := Lib.hid hBa
  have HX := Lib.hid x0
  have HDG := Lib.hid hdg
  have HLN := Lib.hid hlen
  have HLG := Lib.hid hlg
  have HRR := Lib.hid hrr2
  have HR := Lib.hid hR
  have HQ2 := Lib.hid hq2'
  clear he hr hz hck hq hn6 hn9 hn10 hWa hBa x0 hdg hlen hlg hrr hrr2 hR hq2 hq2' hDL ha
  go_enter Tryz.func107, Tryz.ntmps107
  obtain ⟨k0, k1, k2, k3, k4, k5, k6, k7, k8, k9, k10⟩ := cells11 HX.out
  go_upto_region 1 with fail
  rw [HWA.out]
  go_wp2_with fail
  (with_reducible refine (HCK.out _ HBA.out).mono ?_)
  rintro e1 w1 ⟨rfl, hb1⟩
  have HX1 := Lib.hid (row_below HX.out hb1)
  have HB1 := Lib.hid (HBA.out.trans (hb1.mono HBA.out.size))
  clear hb1 k0 k1 k2 k3 k4 k5 k6 k7 k8 k9 k10
  cases q with
  | succ q =>
    simp only [errV, ev]
    go_wp2
    go_ret
    exact ⟨by rw [← HRR.out]; simp, HB1.out⟩
  | zero =>
    simp only [errV]
    go_wp2_with fail
    (with_reducible refine (HR.out _).mono ?_)
    rintro e2 w2 ⟨rfl, rfl⟩
    cases q2 with
    | false =>
      go_wp2
      go_ret
      exact ⟨by rw [← HRR.out]; simp, HB1.out⟩
    | true =>
      obtain ⟨d0, d1⟩ := of_decide_eq_true HQ2.out
      obtain ⟨l0, l1⟩ := HLG.out trivial
      obtain ⟨k0, k1, k2, k3, k4, k5, k6, k7, k8, k9, k10⟩ := cells11 HX1.out
      go_wp2_with fail
      (with_reducible refine (HDG.out trivial _ HB1.out).mono ?_)
      rintro e3 w3 ⟨v3, er3, rfl, hv, hb3⟩
      have HB3 := Lib.hid (HB1.out.trans (hb3.mono HB1.out.size))
      have hl2 := HLN.out trivial
      clear hb3
      rcases hv with ⟨h1, _⟩ | ⟨h1, rfl, hrd⟩
      · omega
      obtain ⟨a3, c3, rfl⟩ := hrd.shape
      clear hrd
      by_cases h0 : (0 : Int) < (DL.length : Int)
      · have H0 := Lib.hid (show DL ≠ [] by rintro rfl; simp at h0)
        go_wp2
        go_ret
        exact ⟨by rw [← HRR.out]; simp [H0.out]; omega, HB3.out⟩
      · have H0 := Lib.hid (show DL = [] by cases DL with | nil => rfl | cons _ _ => simp at h0)
        go_wp2
        go_ret
        exact ⟨by rw [← HRR.out]; simp [H0.out], HB3.out⟩
end Evt
end Go.Proofs.YtghkalamlcfnnaaGreatDoor
end
