/- rule.tail: what follows a rule's days. -/
import Derived.Test.YtmlndamkcipebaaDoorRuleDays
import Derived.Test.YtmlndamkcipebaaDoorRuleNumber
namespace Go.Proofs.YtmlndamkcipebaaDoor
open Go Go.RowKit Go.Shelf Lmd
namespace Rul
open Er Day Cand

/-- the errors that the reading of a rule needs -/
structure E5 (w : World) (e : Nat → Addr) : Prop where
  four : E4 w e
  s0 : Frame.Sent w 3 (tx [116, 101, 120, 116]) (e 0)
theorem E5.below {w w' : World} {e : Nat → Addr} (h : E5 w e) (hb : Below w.heap.size w w') : E5 w' e := ⟨h.four.below hb, h.s0.below hb⟩
theorem five {w : World} {e : Nat → Addr} (h : Errs w e) : E5 w e := ⟨Rul.four h, h.s0⟩

/-- a day's text: the error's number (0: none), and the day -/
def dayC (l : List UInt8) : Nat := if Cal.shapeB l = true then (if Cal.okB (Cal.yOf l) (Cal.mOf l) (Cal.dOf l) = true then 0 else 2) else 1
def dayX (l : List UInt8) : Int := if dayC l = 0 then Cal.num (Cal.yOf l) (Cal.mOf l) (Cal.dOf l) else 0
theorem readDay_five (s : ByteArray) (e : Nat → Addr) (w : World) (he : E5 w e) :
    Calls Tryd.prog 100 #[.string s] w fun e' w' => e' = .returned (.tuple #[.int .i64 (dayX s.data.toList), errV e (dayC s.data.toList)]) ∧ Below w.heap.size w w' := by
  cases hs : Cal.shapeB s.data.toList with
  | false =>
    have hc : dayC s.data.toList = 1 := by unfold dayC; rw [hs]; rfl
    have hx : dayX s.data.toList = 0 := by unfold dayX; rw [hc]; rfl
    rw [hc, hx]
    refine (read_text s (e 0) w hs he.s0.cell).mono ?_
    rintro e' w' ⟨rfl, k, rfl⟩; exact ⟨rfl, below_draw (Below.refl _ _) k⟩
  | true =>
    by_cases ho : Cal.Ok (Cal.yOf s.data.toList) (Cal.mOf s.data.toList) (Cal.dOf s.data.toList)
    · have hc : dayC s.data.toList = 0 := by unfold dayC; rw [if_pos hs, if_pos (Cal.okB_true ho)]
      have hx : dayX s.data.toList = Cal.num (Cal.yOf s.data.toList) (Cal.mOf s.data.toList) (Cal.dOf s.data.toList) := by unfold dayX; rw [if_pos hc]
      rw [hc, hx]
      refine (read_ok s w hs ho).mono ?_
      rintro e' w' ⟨rfl, rfl⟩; exact ⟨rfl, Below.refl _ _⟩
    · have hc : dayC s.data.toList = 2 := by unfold dayC; rw [if_pos hs, if_neg (by rw [Cal.okB_false ho]; decide)]
      have hx : dayX s.data.toList = 0 := by unfold dayX; rw [hc]; rfl
      rw [hc, hx]
      refine (read_bound s (e 1) w hs ho he.four.s1.cell).mono ?_
      rintro e' w' ⟨rfl, k, rfl⟩; exact ⟨rfl, below_draw (Below.refl _ _) k⟩

/-- a slice of strings -/
def ReadsS (w : World) (v : Value) (xs : List ByteArray) : Prop :=
  (xs = [] ∧ ∃ a c, v = .slice a 0 c) ∨ ∃ b off c, v = .slice (some ⟨b, off, none⟩) xs.length c ∧ ∀ (j : Nat) x, xs[j]? = some x → w.cell? ⟨b, off + j, none⟩ = some (.string x)

abbrev countW : List UInt8 := [99, 111, 117, 110, 116]
abbrev untilW : List UInt8 := [117, 110, 116, 105, 108]
def tailB (l : List ByteArray) : Bool :=
  match l with
  | [] => true
  | [k, x] => if k.toList = countW then (numOk x.data.toList && decide (0 < numIs x.data.toList)) else decide (k.toList = untilW)
  | _ => false
def tailC (l : List ByteArray) : Nat :=
  match l with
  | [k, x] => if k.toList = countW then 0 else if k.toList = untilW then dayC x.data.toList else 0
  | _ => 0
def tailCt (l : List ByteArray) (ct : Int) : Int :=
  match l with
  | [k, x] => if k.toList = countW then numIs x.data.toList else ct
  | _ => ct
def tailUn (l : List ByteArray) (un : Int) : Int :=
  match l with
  | [k, x] => if k.toList = countW then un else if k.toList = untilW then dayX x.data.toList else un
  | _ => un

/-- what lies behind rule.tail -/
def TailEnd (fq : ByteArray) (ev ct un : Int) (v : Value) (b : Nat) (l : List ByteArray) (w w' : World) : Prop :=
  ∃ ct' un', w'.heap[b]? = some (.cells #[.string fq, .int .i64 ev, v, .int .i64 ct', .int .i64 un'] 67 (0, 0)) ∧ (tailB l = true → tailC l = 0 → ct' = tailCt l ct ∧ un' = tailUn l un) ∧ Rng.Stay (fun x => x = b) w.heap.size w w'

set_option maxRecDepth 100000 in
set_option maxHeartbeats 4000000 in
theorem tail_any (fq : ByteArray) (ev ct un : Int) (v : Value) (b : Nat) (l : List ByteArray) (sv : Value) (e : Nat → Addr) (w : World) (he : E5 w e) (hE : ELib w) (htab : Lib.TabIs Tryd.prog w "internal/strconv.uint64pow10" .u64 Lib.pow10Tab)
    (hrow : w.heap[b]? = some (.cells #[.string fq, .int .i64 ev, v, .int .i64 ct, .int .i64 un] 67 (0, 0))) (hl : ReadsS w sv l) (hsz : ∀ x ∈ l, x.size ≤ 1000000) :
    Calls Tryd.prog 79 #[.pointer (some ⟨b, 0, none⟩), sv] w fun e' w' => e' = .returned (.tuple #[.bool (tailB l), errV e (tailC l)]) ∧ TailEnd fq ev ct un v b l w w' := by
  have hcl : ∀ o, w.heap[b]? = some o → o.isCells = true := fun o ho => by rw [hrow] at ho; cases ho; rfl
  rcases l with _ | ⟨k, _ | ⟨x, _ | ⟨y, t⟩⟩⟩
  · -- none
    obtain ⟨a, c, rfl⟩ : ∃ a c, sv = .slice a 0 c := by
      rcases hl with ⟨_, h⟩ | ⟨b', off, c, h, _⟩
      · exact h
      · exact ⟨_, c, h⟩
    simp only [tailB, tailC, errV]
    have HROW := Lib.hid hrow
    clear he hE htab hl hrow hcl
    go_enter Tryd.func79, Tryd.ntmps79
    go_wp2
    go_ret2
    exact ⟨rfl, _, _, HROW.out, (fun _ _ => ⟨rfl, rfl⟩), Rng.Stay.refl _ _ _⟩
  · obtain ⟨b', off, c, rfl, hc⟩ := hl.resolve_left (by rintro ⟨h, _⟩; cases h)
    simp only [tailB, tailC, errV, List.length_cons, List.length_nil]
    have HROW := Lib.hid hrow
    clear he hE htab hc hrow hcl
    go_enter Tryd.func79, Tryd.ntmps79
    go_wp2
    go_ret2
    exact ⟨rfl, _, _, HROW.out, (fun h => by cases h), Rng.Stay.refl _ _ _⟩
  rotate_left
  · obtain ⟨b', off, c, rfl, hc⟩ := hl.resolve_left (by rintro ⟨h, _⟩; cases h)
    simp only [tailB, tailC, errV, List.length_cons]
    have HROW := Lib.hid hrow
    clear he hE htab hc hrow hcl
    go_enter Tryd.func79, Tryd.ntmps79
    go_wp2
    go_ret2
    exact ⟨rfl, _, _, HROW.out, (fun h => by cases h), Rng.Stay.refl _ _ _⟩
  obtain ⟨b', off, c, rfl, hc⟩ := hl.resolve_left (by rintro ⟨h, _⟩; cases h)
  have k0 := hc 0 k rfl
  have k1 := hc 1 x rfl
  simp only [Nat.add_zero] at k0
  have HROW := Lib.hid hrow
  have HCL := Lib.hid hcl
  have HE := Lib.hid he
  have HL := Lib.hid hE
  have HT := Lib.hid htab
  have hxs := hsz x (by simp)
  clear he hE htab hc hrow hcl hl hsz
  by_cases h1 : k.toList = countW
  · have hn := number_any x w hxs HL.out HT.out
    have HN := Lib.hid hn
    have ht1 : tailB [k, x] = (numOk x.data.toList && decide (0 < numIs x.data.toList)) := if_pos h1
    have ht2 : tailC [k, x] = 0 := if_pos h1
    have ht3 : ∀ ct, tailCt [k, x] ct = numIs x.data.toList := fun _ => if_pos h1
    have ht4 : ∀ un, tailUn [k, x] un = un := fun _ => if_pos h1
    rw [ht2]
    obtain ⟨q, hq⟩ : ∃ q, tailB [k, x] = q := ⟨_, rfl⟩
    rw [hq] at ht1 ⊢
    have HT1 := Lib.hid ht1
    simp only [errV]
    have H3 := Lib.hid ht3
    have H4 := Lib.hid ht4
    have HQ := Lib.hid hq
    clear hn ht1 ht2 ht3 ht4 hq
    simp only [countW] at h1
    go_enter Tryd.func79, Tryd.ntmps79
    go_wp2_with fail
    refine HN.out.mono ?_
    rintro e1 w1 ⟨n, rfl, hn, hb1⟩
    have hr1 := row_below HROW.out hb1
    obtain ⟨q0, q1, q2, q3, q4, f3, f4, _⟩ := cells5 hr1
    have HN1 := Lib.hid hn
    have HB1 := Lib.hid hb1
    have HR1 := Lib.hid hr1
    obtain ⟨p, hp⟩ : ∃ p, numOk x.data.toList = p := ⟨_, rfl⟩
    rw [hp] at HN1 HT1 ⊢
    clear hn hb1 hr1 HN
    have hst := (Rng.Stay.of_below (O := fun x => x = b) (hi := w.heap.size) HB1.out).setCell (p := ⟨b, 3, none⟩) (.inl rfl) HCL.out (.int .i64 n)
    have hrw := row_set HR1.out 3 (.int .i64 n)
    have HST := Lib.hid hst
    have HRW := Lib.hid hrw
    clear hst hrw hp
    cases p with
    | false =>
      obtain rfl : q = false := by rw [HT1.out]; rfl
      go_wp2
      go_ret2
      exact ⟨rfl, _, _, HRW.out, (fun h => by rw [HQ.out] at h; cases h), HST.out⟩
    | true =>
      have HNN := Lib.hid (HN1.out rfl)
      clear HN1
      by_cases hn0 : 0 < n
      · obtain rfl : q = true := by rw [HT1.out, ← HNN.out, decide_eq_true hn0]; rfl
        go_wp2
        go_ret2
        exact ⟨rfl, _, _, HRW.out, (fun _ _ => ⟨HNN.out.trans (H3.out _).symm, (H4.out _).symm⟩), HST.out⟩
      · obtain rfl : q = false := by rw [HT1.out, ← HNN.out, decide_eq_false hn0]; rfl
        go_wp2
        go_ret2
        exact ⟨by rw [show decide (0 < n) = false from decide_eq_false (by omega)]; rfl, _, _, HRW.out, (fun h => by rw [HQ.out] at h; cases h), HST.out⟩
  · have h1' : (k.toList == countW) = false := by simpa using h1
    by_cases h2 : k.toList = untilW
    · have hd := readDay_five x e w HE.out
      have HD := Lib.hid hd
      have ht1 : tailB [k, x] = true := (if_neg h1).trans (decide_eq_true h2)
      have ht2 : tailC [k, x] = dayC x.data.toList := (if_neg h1).trans (if_pos h2)
      have ht3 : ∀ ct, tailCt [k, x] ct = ct := fun _ => if_neg h1
      have ht4 : ∀ un, tailUn [k, x] un = dayX x.data.toList := fun _ => (if_neg h1).trans (if_pos h2)
      rw [ht1, ht2]
      have H3 := Lib.hid ht3
      have H4 := Lib.hid ht4
      obtain ⟨dv, hdv⟩ : ∃ dv, dayX x.data.toList = dv := ⟨_, rfl⟩
      obtain ⟨dc, hdc⟩ : ∃ dc, errV e (dayC x.data.toList) = dc := ⟨_, rfl⟩
      rw [hdc] at HD ⊢
      have HV := Lib.hid hdv
      rw [hdv] at HD
      clear hd ht1 ht2 ht3 ht4 hdv hdc
      simp only [countW] at h1'
      simp only [untilW] at h2
      clear h1
      go_enter Tryd.func79, Tryd.ntmps79
      go_wp2_with fail
      refine HD.out.mono ?_
      rintro e1 w1 ⟨rfl, hb1⟩
      have hr1 := row_below HROW.out hb1
      obtain ⟨q0, q1, q2, q3, q4, f3, f4, _⟩ := cells5 hr1
      have hst := (Rng.Stay.of_below (O := fun x => x = b) (hi := w.heap.size) hb1).setCell (p := ⟨b, 4, none⟩) (.inl rfl) HCL.out (.int .i64 dv)
      have hrw := row_set hr1 4 (.int .i64 dv)
      have HST := Lib.hid hst
      have HRW := Lib.hid hrw
      clear hb1 hr1 HD hst hrw
      go_wp2
      go_ret2
      exact ⟨rfl, _, _, HRW.out, (fun _ _ => ⟨(H3.out _).symm, (HV.out ▸ (H4.out _)).symm⟩), HST.out⟩
    · have h2' : (k.toList == untilW) = false := by simpa using h2
      have ht1 : tailB [k, x] = false := (if_neg h1).trans (decide_eq_false h2)
      have ht2 : tailC [k, x] = 0 := (if_neg h1).trans (if_neg h2)
      rw [ht1, ht2]
      have HQ := Lib.hid ht1
      simp only [errV]
      simp only [countW] at h1'
      simp only [untilW] at h2'
      clear h1 h2 ht1 ht2
      go_enter Tryd.func79, Tryd.ntmps79
      go_wp2
      go_ret2
      exact ⟨rfl, _, _, HROW.out, (fun h => by rw [HQ.out] at h; cases h), Rng.Stay.refl _ _ _⟩
end Rul
end Go.Proofs.YtmlndamkcipebaaDoor
