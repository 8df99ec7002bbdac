/- A calendar that may be nil: its IDs, its text; Same. -/
import Derived.Test.YtenmeaoagepfnaaGreatDoorBkRdL
import Derived.Test.YtenmeaoagepfnaaGreatDoorAsBook
import Derived.Deep.CutRange
namespace Go.Proofs.YtenmeaoagepfnaaGreatDoor
open Go Go.RowKit Go.Shelf Lmd
attribute [local go_sem] Oper.semAt_some
namespace Bk
open Evt Tp Rul Day Cand Er

noncomputable instance decEvs (L M : List Ev) : Decidable (L = M) := Classical.propDecidable _
set_option maxRecDepth 100000 in
theorem ids_nil (w : World) : Calls Tryz.prog 39 #[.pointer none] w fun e w' => e = .returned (.slice none 0 0) ∧ Below w.heap.size w w' := by
  go_enter Tryz.func39, Tryz.ntmps39
  go_wp2
  go_ret
  exact ⟨rfl, Below.refl _ _⟩
set_option maxRecDepth 100000 in
set_option maxHeartbeats 4000000 in
theorem text_nil (w : World) : Calls Tryz.prog 42 #[.pointer none] w fun r w' => r = .returned (.string (mk [])) ∧ Below w.heap.size w w' := by
  obtain ⟨W, hW⟩ : ∃ W, w.alloc (.cells #[.pointer none, .slice none 0 0] 136) = W := ⟨_, rfl⟩
  have hB : Below w.heap.size w W := by rw [← hW]; exact (Below.refl _ w).alloc (Nat.le_refl _) _
  have his : Bd.Is w.heap.size w.heap.size [] W := by rw [← hW]; exact Bd.new_is w
  have HI := Lib.hid his
  have HW := Lib.hid hW
  have HB := Lib.hid hB
  have HID := Lib.hid (ids_nil W)
  clear his hW hB
  go_enter Tryz.func42, Tryz.ntmps42
  go_upto_region 2 with fail
  rw [HW.out]
  go_wp2_with fail
  (with_reducible refine HID.out.mono ?_)
  rintro e1 w1 ⟨rfl, hb1⟩
  have HI0 := Lib.hid (HI.out.below hb1)
  have HB1 := Lib.hid (HB.out.trans (hb1.mono HB.out.size))
  clear hb1
  go_wp2_with fail
  go_loopw [5, 9] (fun _ i wr => i = .int .i64 0 ∧ wr = w1) (fun _ _ _ => 0)
  case atStart => exact ⟨rfl, rfl⟩
  case round =>
    obtain ⟨rfl, rfl⟩ := hrel
    have HST := Lib.hid (Bd.string_any w.heap.size w.heap.size [] wr HI0.out (Nat.le_of_lt HI0.out.lt))
    go_wp2_with fail
    (with_reducible refine HST.out.mono ?_)
    rintro e5 w5 ⟨rfl, hb5⟩
    have HB5 := Lib.hid (HB1.out.trans hb5)
    clear hb5
    go_wp2
    go_ret
    exact ⟨rfl, HB5.out⟩
/-- a calendar, or nil -/
def BookO (w : World) (B : Nat) (p : Option Addr) (L : List Ev) : Prop := (p = none ∧ L = []) ∨ ∃ b m, p = some ⟨b, 0, none⟩ ∧ Book w B b m L
theorem Book.or {w : World} {B b m : Nat} {L : List Ev} (h : Book w B b m L) : BookO w B (some ⟨b, 0, none⟩) L := .inr ⟨b, m, rfl, h⟩
theorem BookO.nil (w : World) (B : Nat) : BookO w B none [] := .inl ⟨rfl, rfl⟩
theorem BookO.below {w w' : World} {B : Nat} {p : Option Addr} {L : List Ev} (h : BookO w B p L) (hb : Below w.heap.size w w') : BookO w' B p L := by
  rcases h with h | ⟨b, m, e, h⟩
  · exact .inl h
  · exact .inr ⟨b, m, e, h.below hb⟩
theorem BookO.asc {w : World} {B : Nat} {p : Option Addr} {L : List Ev} (h : BookO w B p L) : Asc L := by
  rcases h with ⟨_, rfl⟩ | ⟨b, m, e, h⟩
  · exact List.Pairwise.nil
  · exact h.asc
theorem BookO.good {w : World} {B : Nat} {p : Option Addr} {L : List Ev} (h : BookO w B p L) : ∀ e ∈ L, badE e = 0 := by
  rcases h with ⟨_, rfl⟩ | ⟨b, m, e, h⟩
  · simp
  · exact h.good
theorem BookO.few {w : World} {B : Nat} {p : Option Addr} {L : List Ev} (h : BookO w B p L) : L.length ≤ 60 := by
  rcases h with ⟨_, rfl⟩ | ⟨b, m, e, h⟩
  · simp
  · exact h.few
theorem BookO.fit {w : World} {B : Nat} {p : Option Addr} {L : List Ev} (h : BookO w B p L) : ∀ e ∈ L, Size e := by
  rcases h with ⟨_, rfl⟩ | ⟨b, m, e, h⟩
  · simp
  · exact h.fit
theorem ids_or (w : World) (B : Nat) (p : Option Addr) (L : List Ev) (h : BookO w B p L) :
    Calls Tryz.prog 39 #[.pointer p] w fun e w' => ∃ v, e = .returned v ∧ w'.ownsRow w.heap.size 9 1 v L.length (cellsS (idsB L)) ∧ Below w.heap.size w w' := by
  rcases h with ⟨rfl, rfl⟩ | ⟨b, m, rfl, h⟩
  · exact (ids_nil w).mono fun _ _ ⟨h1, h2⟩ => ⟨_, h1, ⟨rfl, .inl ⟨rfl, rfl⟩⟩, h2⟩
  · exact ids_any w B b m L h
theorem text_or (w : World) (B : Nat) (p : Option Addr) (L : List Ev) (er : Nat → Addr) (hT : Tb w er) (h : BookO w B p L) :
    Calls Tryz.prog 42 #[.pointer p] w fun r w' => r = .returned (.string (mk (textB L))) ∧ Below w.heap.size w w' := by
  rcases h with ⟨rfl, rfl⟩ | ⟨b, m, rfl, h⟩
  · exact text_nil w
  · exact text_any w B b m L er hT h h.textLe
/-- calendars with one text are one -/
theorem texts_one {L M : List Ev} (gl : ∀ e ∈ L, badE e = 0) (gm : ∀ e ∈ M, badE e = 0) (al : Asc L) (am : Asc M) (fl : L.length ≤ 60) (fm : M.length ≤ 60) (h : textB L = textB M) : L = M := by
  have h1 := book_back al gl fl
  have h2 := book_back am gm fm
  rw [h, h2] at h1
  injection h1 with _ h3
  injection h3 with _ h4
  exact h4.symm
set_option maxRecDepth 100000 in
set_option maxHeartbeats 4000000 in
theorem same_or (w : World) (B B' : Nat) (p p' : Option Addr) (L M : List Ev) (er : Nat → Addr) (hT : Tb w er) (h : BookO w B p L) (h' : BookO w B' p' M) :
    Calls Tryz.prog 29 #[.pointer p, .pointer p'] w fun r w' => r = .returned (.bool (decide (L = M))) ∧ Below w.heap.size w w' := by
  have HT := Lib.hid hT
  have HK := Lib.hid h
  have HK' := Lib.hid h'
  have HI := Lib.hid (ids_or w B p L h)
  clear hT h h'
  go_enter Tryz.func29, Tryz.ntmps29
  go_wp2_with fail
  (with_reducible refine HI.out.mono ?_)
  rintro e1 w1 ⟨v1, rfl, ho1, hb1⟩
  have hr1 : Tx.Rd w1 v1 (idsB L) := Tx.rd_own ho1 (ids_len L).symm
  have HI' := Lib.hid (ids_or w1 B' p' M (HK'.out.below hb1))
  have HR1 := Lib.hid hr1
  have HB1 := Lib.hid hb1
  clear ho1 hr1 hb1
  go_wp2_with fail
  (with_reducible refine HI'.out.mono ?_)
  rintro e2 w2 ⟨v2, rfl, ho2, hb2⟩
  have hr2 : Tx.Rd w2 v2 (idsB M) := Tx.rd_own ho2 (ids_len M).symm
  have hf1 := HK.out.few
  have hf2 := HK'.out.few
  have HE := Lib.hid (equalTexts_any w2 v1 v2 (idsB L) (idsB M) (HR1.out.below hb2) hr2 (by rw [ids_len]; omega) (by rw [ids_len]; omega))
  have HB2 := Lib.hid (HB1.out.trans (hb2.mono HB1.out.size))
  clear ho2 hr2 hb2 hf1 hf2
  obtain ⟨q, hq⟩ : ∃ q, decide (idsB L = idsB M) = q := ⟨_, rfl⟩
  rw [hq] at HE
  have HQ := Lib.hid hq
  clear hq
  cases q with
  | false =>
    go_wp2_with fail
    (with_reducible refine HE.out.mono ?_)
    rintro e3 w3 ⟨rfl, hb3⟩
    have HB3 := Lib.hid (HB2.out.trans (hb3.mono HB2.out.size))
    clear hb3
    go_wp2
    go_ret
    exact ⟨by rw [decide_eq_false (fun e => of_decide_eq_false HQ.out (by rw [e]))]; rfl, HB3.out⟩
  | true =>
    go_wp2_with fail
    (with_reducible refine HE.out.mono ?_)
    rintro e3 w3 ⟨rfl, hb3⟩
    have hb3' := HB2.out.trans (hb3.mono HB2.out.size)
    have HB3 := Lib.hid hb3'
    have HX := Lib.hid (text_or w3 B p L er (HT.out.below hb3') (HK.out.below hb3'))
    clear hb3 hb3'
    go_wp2_with fail
    (with_reducible refine HX.out.mono ?_)
    rintro e4 w4 ⟨rfl, hb4⟩
    have hb4' := HB3.out.trans (hb4.mono HB3.out.size)
    have HB4 := Lib.hid hb4'
    have HX' := Lib.hid (text_or w4 B' p' M er (HT.out.below hb4') (HK'.out.below hb4'))
    clear hb4 hb4'
    go_wp2_with fail
    (with_reducible refine HX'.out.mono ?_)
    rintro e5 w5 ⟨rfl, hb5⟩
    have HB5 := Lib.hid (HB4.out.trans (hb5.mono HB4.out.size))
    clear hb5
    obtain ⟨T1, hT1⟩ : ∃ T1, textB L = T1 := ⟨_, rfl⟩
    obtain ⟨T2, hT2⟩ : ∃ T2, textB M = T2 := ⟨_, rfl⟩
    have HT1 := Lib.hid hT1
    have HT2 := Lib.hid hT2
    rw [hT1, hT2]
    clear hT1 hT2
    by_cases he : T1 = T2
    · have hd : decide (T1 = T2) = true := decide_eq_true he
      have h1 : (T1 == T2) = true := beq_iff_eq.2 he
      have h2 : ((mk T1).toList == (mk T2).toList) = true := by rw [mkL, mkL]; exact h1
      have HD := Lib.hid hd
      clear he hd
      go_wp2
      go_ret
      exact ⟨by rw [decide_eq_true (texts_one HK.out.good HK'.out.good HK.out.asc HK'.out.asc HK.out.few HK'.out.few (HT1.out.trans ((of_decide_eq_true HD.out).trans HT2.out.symm)))]; rfl, HB5.out⟩
    · have hd : decide (T1 = T2) = false := decide_eq_false he
      have h1 : (T1 == T2) = false := beq_false_of_ne he
      have h2 : ((mk T1).toList == (mk T2).toList) = false := by rw [mkL, mkL]; exact h1
      have HD := Lib.hid hd
      have HNE := Lib.hid he
      clear hd he
      go_wp2
      go_ret
      exact ⟨by rw [decide_eq_false (fun e => HNE.out (by rw [← HT1.out, ← HT2.out, e]))]; rfl, HB5.out⟩
end Bk
end Go.Proofs.YtenmeaoagepfnaaGreatDoor
