/- EvNl, BkMore, EvSize: texts joined. -/
import Derived.Test.YtghkalamlcfnnaaGreatDoorQEvPutL
import Derived.Test.YtghkalamlcfnnaaGreatDoorQA4
import Derived.Test.YtghkalamlcfnnaaGreatDoorQA16
import Derived.Test.YtghkalamlcfnnaaGreatDoorQEvSet
import Derived.Test.YtghkalamlcfnnaaGreatDoorQA15
import Derived.Test.YtghkalamlcfnnaaGreatDoorQBkBook
import Derived.Test.YtghkalamlcfnnaaGreatDoorQCutLaw
import Derived.Deep.CutRange
import Derived.Test.YtghkalamlcfnnaaGreatDoorQShelf
import Derived.BigQuiet
section
section
namespace Go.Proofs.YtghkalamlcfnnaaGreatDoor
open Go Go.RowKit Go.Shelf Lmd
namespace Evt
open Rul Day Cand Er
def NlL (l : List UInt8) : Prop := ∀ c ∈ l, c ≠ 10
theorem nlow_app {a b : List UInt8} (h : NlL a) (k : NlL b) : NlL (a ++ b) := fun c hc => (List.mem_append.1 hc).elim (h c) (k c)
theorem nlow_free {l : List UInt8} (h : NlL l) : (10 : UInt8) ∉ l := fun hc => h _ hc rfl
theorem nlow_of {l : List UInt8} (h : (10 : UInt8) ∉ l) : NlL l := fun _ hc e => h (e ▸ hc)
theorem nlow_join {sep : List UInt8} (hs : NlL sep) : ∀ {xs : List (List UInt8)}, (∀ x ∈ xs, NlL x) → NlL (Lib.join xs sep)
  | [], _ => fun _ hc => by simp [Lib.join] at hc
  | x :: r, h => by
    rw [Lib.join_cons]
    refine nlow_app (h x (by simp)) fun c hc => ?_
    unfold Lib.joinTail at hc
    obtain ⟨l, hl, hcl⟩ := List.mem_flatten.1 hc
    obtain ⟨y, hy, rfl⟩ := List.mem_map.1 hl
    exact nlow_app hs (h y (by simp [hy])) c hcl
theorem ndayL_low (n : Int) : NlL (dayL n) := nlow_of (dayL_free (by decide))
theorem nitoa_low {n : Int} (h : 0 ≤ n) : NlL (Lib.itoa n) := nlow_of (itoa_free h (by decide))
theorem nrule_low {r : Ru} (h : bad r = 0) : NlL (textL r) := by
  obtain ⟨h1, h2, h3, h4, h5⟩ := bad_parts h
  obtain ⟨⟨e1, e2⟩, ⟨c1, c2⟩, u1, u2⟩ := bound_parts h2
  have hfq : NlL r.fq.data.toList := by
    rcases freqs_mem h1 with e | e | e | e | e <;> rw [e] <;> exact nlow_of (by decide)
  by_cases ho : r.fq.toList = onceW
  · unfold textL; rw [if_pos ho]; exact hfq
  · rw [text_words r ho]
    refine nlow_join (nlow_of (by decide)) fun y hy => ?_
    simp only [List.mem_cons, List.mem_append] at hy
    rcases hy with rfl | rfl | (hy | hy) | hy
    · exact hfq
    · exact nitoa_low (by omega)
    · unfold dW at hy
      split at hy
      · simp at hy
      · simp at hy; subst hy
        unfold nms
        refine nlow_join (nlow_of (by decide)) fun x hx => ?_
        obtain ⟨nm, hnm, rfl⟩ := List.mem_map.1 hx
        obtain ⟨k, hk, rfl⟩ := List.mem_map.1 hnm
        obtain ⟨k0, k6⟩ := days_ok h3 k hk
        have : k = 0 ∨ k = 1 ∨ k = 2 ∨ k = 3 ∨ k = 4 ∨ k = 5 ∨ k = 6 := by omega
        rcases this with rfl | rfl | rfl | rfl | rfl | rfl | rfl <;> exact nlow_of (by decide)
    · unfold cW at hy
      split at hy
      · simp at hy
        rcases hy with rfl | rfl
        · exact nlow_of (by decide)
        · exact nitoa_low (by omega)
      · simp at hy
    · unfold uW at hy
      split at hy
      · rename_i hu
        simp at hy
        rcases hy with rfl | rfl
        · exact nlow_of (by decide)
        · have hd : dayL r.un = dayT r.un := by unfold dayL; rw [if_pos ⟨by omega, by omega⟩]
          rw [← hd]; exact ndayL_low _
      · simp at hy
theorem nparts_low {e : Ev} (h : badE e = 0) : ∀ y ∈ (partsE e 6).map (·.data.toList), (10 : UInt8) ∉ y := by
  obtain ⟨h1, h2, h3, h4, h5, h6⟩ := badE_zero h
  intro y hy
  refine nlow_free ?_
  obtain ⟨z, hz, rfl⟩ := List.mem_map.1 hy
  simp only [partsE, List.mem_cons] at hz
  rcases hz with rfl | hz
  · unfold nameB at h1
    rw [Bool.and_eq_true, Bool.and_eq_true, List.all_eq_true] at h1
    intro c hc e
    have := h1.2 c hc
    rw [e] at this
    exact absurd this (by decide)
  · obtain ⟨f, hf, rfl⟩ := List.mem_map.1 hz
    have hf' : f ∈ fieldL := hf
    simp only [fieldL, List.mem_cons, List.not_mem_nil, or_false] at hf'
    rcases hf' with rfl | rfl | rfl | rfl | rfl | rfl
    · rw [getT]
      unfold titleB at h2
      rw [Bool.and_eq_true, List.all_eq_true] at h2
      intro c hc e
      have := h2.2 c hc
      rw [e] at this
      exact absurd this (by decide)
    · rw [getS]; exact ndayL_low _
    · rw [getL']; exact nitoa_low (by omega)
    · rw [getR, if_pos h5]; exact nrule_low h5
    · rw [getK]
      unfold skipsL
      refine nlow_join (nlow_of (by decide)) fun x hx => ?_
      obtain ⟨a, ha, rfl⟩ := List.mem_map.1 hx
      obtain ⟨b, _, rfl⟩ := List.mem_map.1 ha
      exact ndayL_low _
    · rw [getM]
      unfold movesL
      refine nlow_join (nlow_of (by decide)) fun x hx => ?_
      obtain ⟨a, ha, rfl⟩ := List.mem_map.1 hx
      obtain ⟨b, _, rfl⟩ := List.mem_map.1 ha
      exact nlow_app (nlow_app (ndayL_low _) (nlow_of (by decide))) (ndayL_low _)
theorem text_nl {e : Ev} (h : badE e = 0) : (10 : UInt8) ∉ textE e := nlow_free (by
  unfold textE
  exact nlow_join (nlow_of (by decide)) fun y hy => nlow_of (nparts_low h y hy))
end Evt
end Go.Proofs.YtghkalamlcfnnaaGreatDoor
end
section
namespace Go.Proofs.YtghkalamlcfnnaaGreatDoor
open Go Go.RowKit Lmd
namespace Bk
open Evt
theorem asc_once {L : List Ev} (h : Asc L) : L.Nodup := h.imp fun {a b} (hl : key a < key b) (e : a = b) => lt_irrefl (key b) (by rw [e] at hl; exact hl)
theorem asc_ext {a b : List Ev} (ha : Asc a) (hb : Asc b) (h : ∀ x, x ∈ a ↔ x ∈ b) : a = b :=
  List.Perm.eq_of_pairwise (le := fun x y : Ev => key x < key y) (fun _ _ _ _ h1 h2 => absurd (List.lt_trans h1 h2) (lt_irrefl _)) ha hb ((List.perm_ext_iff_of_nodup (asc_once ha) (asc_once hb)).2 h)
end Bk
end Go.Proofs.YtghkalamlcfnnaaGreatDoor
end
section
namespace Go.Proofs.YtghkalamlcfnnaaGreatDoor
open Go Go.RowKit Go.Shelf Lmd
attribute [local go_sem] Oper.semAt_some
namespace Evt
open Rul Day Cand Er Tp
end Evt
end Go.Proofs.YtghkalamlcfnnaaGreatDoor
end
end
section
section
namespace Go.Proofs.YtghkalamlcfnnaaGreatDoor
open Go Go.RowKit Lmd
namespace Bk
open Evt Rul Day Cand Er Tp
def lastOf (L : List Ev) : ByteArray := match L.getLast? with | some e => e.id | none => ⟨#[]⟩
theorem lastOf_snoc (L : List Ev) (e : Ev) : lastOf (L ++ [e]) = e.id := by unfold lastOf; rw [List.getLast?_concat]
def lineK (s last : ByteArray) (L : List Ev) : Nat := if readC s ≠ 0 then readC s else if last.data.toList < key (readE s) then putK (readE s) L else 8
def lineL (s last : ByteArray) (L : List Ev) : List Ev := if lineK s last L = 0 then withE (readE s) L else L
theorem lineK_put {s last : ByteArray} {L : List Ev} (h : readC s = 0) (hl : last.data.toList < key (readE s)) : lineK s last L = putK (readE s) L ∧ lineL s last L = putL (readE s) L := by
  have h1 : lineK s last L = putK (readE s) L := by unfold lineK; rw [if_neg (by omega), if_pos hl]
  exact ⟨h1, by unfold lineL putL; rw [h1]⟩
theorem readE_fit {s : ByteArray} (hs : s.size ≤ 30000) : Size (readE s) := by
  have hp : ∀ x ∈ pieces 124 s, x.size ≤ 30000 := fun x hx => Nat.le_trans (pieces_le hx) hs
  unfold readE readLE
  split
  · rename_i h
    unfold readLC at h
    split at h
    · rename_i h7
      exact evK_size hp h7 6 (Nat.le_refl _)
    · cases h
  · exact Evt.zero_size
theorem key_some {e : Ev} (h : badE e = 0) : ([] : List UInt8) < key e := by
  have h1 := (badE_zero h).1
  unfold nameB at h1
  rw [Bool.and_eq_true, Bool.and_eq_true, decide_eq_true_eq] at h1
  have h2 : key e ≠ [] := fun k => h1.1.1 (by
    have : e.id.data.toList.length = 0 := by
      have : e.id.data.toList = [] := k
      rw [this]; rfl
    rw [Array.length_toList] at this
    exact this)
  cases hk : key e with
  | nil => exact absurd hk h2
  | cons a t => exact List.nil_lt_cons a t
theorem asc_last {L : List Ev} {e : Ev} (ha : Asc L) (h : (lastOf L).data.toList < key e) : Asc (L ++ [e]) := by
  refine List.pairwise_append.2 ⟨ha, List.pairwise_singleton _ _, fun x hx y hy => ?_⟩
  rw [List.mem_singleton] at hy
  subst hy
  rcases List.eq_nil_or_concat L with rfl | ⟨M, z, rfl⟩
  · cases hx
  · rw [List.concat_eq_append] at *
    rw [lastOf_snoc] at h
    rcases List.mem_append.1 hx with hx | hx
    · exact List.lt_trans ((List.pairwise_append.1 ha).2.2 x hx z (List.mem_singleton.2 rfl)) h
    · rw [List.mem_singleton] at hx; subst hx; exact h
theorem last_asc {L : List Ev} {e : Ev} (ha : Asc (L ++ [e])) (hg : badE e = 0) : (lastOf L).data.toList < key e := by
  rcases List.eq_nil_or_concat L with rfl | ⟨M, z, rfl⟩
  · exact key_some hg
  · rw [List.concat_eq_append] at *
    rw [lastOf_snoc]
    exact (List.pairwise_append.1 ha).2.2 z (List.mem_append.2 (.inr (List.mem_singleton.2 rfl))) e (List.mem_singleton.2 rfl)
theorem with_last {L : List Ev} {e : Ev} (ha : Asc L) (h : (lastOf L).data.toList < key e) : withE e L = L ++ [e] ∧ hasK (key e) L = false := withE_last (asc_last ha h)
def rdL : Nat → List Ev → List ByteArray → Nat × Nat × List Ev
  | i, L, [] => (0, i, L)
  | i, L, [x] => if x.data.toList = [] then (0, i, L) else (1, i, L)
  | i, L, x :: y :: t => if lineK x (lastOf L) L ≠ 0 then (lineK x (lastOf L) L, i, L) else rdL (i + 1) (withE (readE x) L) (y :: t)
def readB (s : ByteArray) : Nat × Nat × List Ev := rdL 0 [] (pieces 10 s)
theorem pieces_some (c : UInt8) (s : ByteArray) : ∃ f t, pieces c s = f :: t := by
  cases h : pieces c s with
  | cons f t => exact ⟨f, t, rfl⟩
  | nil =>
    rw [str_mk s] at h
    by_cases hc : c ∈ s.data.toList
    · obtain ⟨a, r, e, hn⟩ := split_at hc
      rw [e, pieces_more hn] at h; cases h
    · rw [pieces_last hc] at h; cases h
theorem rd_hit {a r : List UInt8} (h : (10 : UInt8) ∉ a) (i : Nat) (L : List Ev) :
    rdL i L (pieces 10 (mk (a ++ 10 :: r))) = if lineK (mk a) (lastOf L) L ≠ 0 then (lineK (mk a) (lastOf L) L, i, L) else rdL (i + 1) (withE (readE (mk a)) L) (pieces 10 (mk r)) := by
  rw [pieces_more h]
  obtain ⟨f, t, e⟩ := pieces_some 10 (mk r)
  rw [e]; rfl
theorem rd_end (i : Nat) (L : List Ev) : rdL i L (pieces 10 (mk [])) = (0, i, L) := by
  rw [pieces_last (by simp)]
  rfl
theorem rd_text : ∀ (t M : List Ev) (i : Nat), Asc (M ++ t) → (∀ e ∈ t, badE e = 0) → (M ++ t).length ≤ 60 → rdL i M (pieces 10 (mk (textB t))) = (0, i + t.length, M ++ t)
  | [], M, i, _, _, _ => by rw [show textB [] = [] from rfl, rd_end, List.append_nil]; rfl
  | e :: t, M, i, ha, hg, hl => by
    have hge := hg e (List.mem_cons_self ..)
    have e1 : textB (e :: t) = textE e ++ 10 :: textB t := by show (textE e ++ [10]) ++ textB t = _; rw [List.append_assoc]; rfl
    have ha' : Asc (M ++ [e]) := by
      have : M ++ e :: t = (M ++ [e]) ++ t := by rw [List.append_assoc]; rfl
      rw [this] at ha
      exact (List.pairwise_append.1 ha).1
    have hM : Asc M := (List.pairwise_append.1 ha').1
    obtain ⟨b1, b2⟩ := text_back hge
    have hlt := last_asc ha' hge
    have hk : lineK (mk (textE e)) (lastOf M) M = 0 := by
      rw [(lineK_put b1 (by rw [b2]; exact hlt)).1, b2]
      refine (putK_good hge (.inr ?_)).1
      rw [List.length_append, List.length_cons] at hl; omega
    rw [e1, rd_hit (text_nl hge), if_neg (by rw [hk]; simp), b2, (with_last hM hlt).1]
    have e2 : (M ++ [e]) ++ t = M ++ e :: t := by rw [List.append_assoc]; rfl
    rw [rd_text t (M ++ [e]) (i + 1) (by rw [e2]; exact ha) (fun x hx => hg x (List.mem_cons_of_mem _ hx)) (by rw [e2]; exact hl), e2, List.length_cons]
    congr 2; omega
theorem book_back {L : List Ev} (ha : Asc L) (hg : ∀ e ∈ L, badE e = 0) (hl : L.length ≤ 60) : readB (mk (textB L)) = (0, L.length, L) := by
  have := rd_text L [] 0 ha hg hl
  rw [Nat.zero_add] at this
  exact this
end Bk
end Go.Proofs.YtghkalamlcfnnaaGreatDoor
end
section
namespace Go.Proofs.YtghkalamlcfnnaaGreatDoor
open Go Go.RowKit Go.Shelf Lmd
attribute [local go_sem] Oper.semAt_some
namespace Bk
open Evt Tp Rul Day Cand Er
noncomputable instance decEvs (L M : List Ev) : Decidable (L = M) := Classical.propDecidable _
set_option maxRecDepth 100000 in
theorem ids_nil (w : World) : Calls Tryz.prog 12 #[.pointer none] w fun e w' => e = .returned (.slice none 0 0) ∧ Below w.heap.size w w' := by
  go_enter Tryz.func12, Tryz.ntmps12
  go_wp2
  go_ret
  exact ⟨rfl, Below.refl _ _⟩
set_option maxRecDepth 100000 in
set_option maxHeartbeats 4000000 in
theorem text_nil (w : World) : Calls Tryz.prog 29 #[.pointer none] w fun r w' => r = .returned (.string (mk [])) ∧ Below w.heap.size w w' := by
  obtain ⟨W, hW⟩ : ∃ W, w.alloc (.cells #[.pointer none, .slice none 0 0] 127) = W := ⟨_, rfl⟩
  have hB : Below w.heap.size w W := by rw [← hW]; exact (Below.refl _ w).alloc (Nat.le_refl _) _
  have his : Bd.Is w.heap.size w.heap.size [] W := by rw [← hW]; exact Bd.new_is w
  have HI := Lib.hid his
  have HW := Lib.hid hW
  have HB := Lib.hid hB
  have HID := Lib.hid (ids_nil W)
  clear his hW hB
  go_enter Tryz.func29, Tryz.ntmps29
  go_upto_region 2 with fail
  rw [HW.out]
  go_wp2_with fail
  (with_reducible refine HID.out.mono ?_)
  rintro e1 w1 ⟨rfl, hb1⟩
  have HI0 := Lib.hid (HI.out.below hb1)
  have HB1 := Lib.hid (HB.out.trans (hb1.mono HB.out.size))
  clear hb1
  go_wp2_with fail
  go_loopw [5, 9] (fun _ i wr => i = .int .i64 0 ∧ wr = w1) (fun _ _ _ => 0)
  case atStart => exact ⟨rfl, rfl⟩
  case round =>
    obtain ⟨rfl, rfl⟩ := hrel
    have HST := Lib.hid (Bd.string_any w.heap.size w.heap.size [] wr HI0.out (Nat.le_of_lt HI0.out.lt))
    go_wp2_with fail
    (with_reducible refine HST.out.mono ?_)
    rintro e5 w5 ⟨rfl, hb5⟩
    have HB5 := Lib.hid (HB1.out.trans hb5)
    clear hb5
    go_wp2
    go_ret
    exact ⟨rfl, HB5.out⟩
def BookO (w : World) (B : Nat) (p : Option Addr) (L : List Ev) : Prop := (p = none ∧ L = []) ∨ ∃ b m, p = some ⟨b, 0, none⟩ ∧ Book w B b m L
theorem Book.or {w : World} {B b m : Nat} {L : List Ev} (h : Book w B b m L) : BookO w B (some ⟨b, 0, none⟩) L := .inr ⟨b, m, rfl, h⟩
theorem BookO.nil (w : World) (B : Nat) : BookO w B none [] := .inl ⟨rfl, rfl⟩
theorem BookO.below {w w' : World} {B : Nat} {p : Option Addr} {L : List Ev} (h : BookO w B p L) (hb : Below w.heap.size w w') : BookO w' B p L := by
  rcases h with h | ⟨b, m, e, h⟩
  · exact .inl h
  · exact .inr ⟨b, m, e, h.below hb⟩
theorem BookO.asc {w : World} {B : Nat} {p : Option Addr} {L : List Ev} (h : BookO w B p L) : Asc L := by
  rcases h with ⟨_, rfl⟩ | ⟨b, m, e, h⟩
  · exact List.Pairwise.nil
  · exact h.asc
theorem BookO.good {w : World} {B : Nat} {p : Option Addr} {L : List Ev} (h : BookO w B p L) : ∀ e ∈ L, badE e = 0 := by
  rcases h with ⟨_, rfl⟩ | ⟨b, m, e, h⟩
  · simp
  · exact h.good
theorem BookO.few {w : World} {B : Nat} {p : Option Addr} {L : List Ev} (h : BookO w B p L) : L.length ≤ 60 := by
  rcases h with ⟨_, rfl⟩ | ⟨b, m, e, h⟩
  · simp
  · exact h.few
theorem ids_or (w : World) (B : Nat) (p : Option Addr) (L : List Ev) (h : BookO w B p L) :
    Calls Tryz.prog 12 #[.pointer p] w fun e w' => ∃ v, e = .returned v ∧ w'.ownsRow w.heap.size 9 1 v L.length (cellsS (idsB L)) ∧ Below w.heap.size w w' := by
  rcases h with ⟨rfl, rfl⟩ | ⟨b, m, rfl, h⟩
  · exact (ids_nil w).mono fun _ _ ⟨h1, h2⟩ => ⟨_, h1, ⟨rfl, .inl ⟨rfl, rfl⟩⟩, h2⟩
  · exact ids_any w B b m L h
theorem text_or (w : World) (B : Nat) (p : Option Addr) (L : List Ev) (er : Nat → Addr) (hT : Tb w er) (h : BookO w B p L) :
    Calls Tryz.prog 29 #[.pointer p] w fun r w' => r = .returned (.string (mk (textB L))) ∧ Below w.heap.size w w' := by
  rcases h with ⟨rfl, rfl⟩ | ⟨b, m, rfl, h⟩
  · exact text_nil w
  · exact text_any w B b m L er hT h h.textLe
theorem texts_one {L M : List Ev} (gl : ∀ e ∈ L, badE e = 0) (gm : ∀ e ∈ M, badE e = 0) (al : Asc L) (am : Asc M) (fl : L.length ≤ 60) (fm : M.length ≤ 60) (h : textB L = textB M) : L = M := by
  have h1 := book_back al gl fl
  have h2 := book_back am gm fm
  rw [h, h2] at h1
  injection h1 with _ h3
  injection h3 with _ h4
  exact h4.symm
set_option maxRecDepth 100000 in
set_option maxHeartbeats 4000000 in
theorem same_or (w : World) (B B' : Nat) (p p' : Option Addr) (L M : List Ev) (er : Nat → Addr) (hT : Tb w er) (h : BookO w B p L) (h' : BookO w B' p' M) :
    Calls Tryz.prog 18 #[.pointer p, .pointer p'] w fun r w' => r = .returned (.bool (decide (L = M))) ∧ Below w.heap.size w w' := by
  have HT := Lib.hid hT
  have HK := Lib.hid h
  have HK' := Lib.hid h'
  have HI := Lib.hid (ids_or w B p L h)
  clear hT h h'
  go_enter Tryz.func18, Tryz.ntmps18
  go_wp2_with fail
  (with_reducible refine HI.out.mono ?_)
  rintro e1 w1 ⟨v1, rfl, ho1, hb1⟩
  have hr1 : Tx.Rd w1 v1 (idsB L) := Tx.rd_own ho1 (ids_len L).symm
  have HI' := Lib.hid (ids_or w1 B' p' M (HK'.out.below hb1))
  have HR1 := Lib.hid hr1
  have HB1 := Lib.hid hb1
  clear ho1 hr1 hb1
  go_wp2_with fail
  (with_reducible refine HI'.out.mono ?_)
  rintro e2 w2 ⟨v2, rfl, ho2, hb2⟩
  have hr2 : Tx.Rd w2 v2 (idsB M) := Tx.rd_own ho2 (ids_len M).symm
  have hf1 := HK.out.few
  have hf2 := HK'.out.few
  have HE := Lib.hid (equalTexts_any w2 v1 v2 (idsB L) (idsB M) (HR1.out.below hb2) hr2 (by rw [ids_len]; omega) (by rw [ids_len]; omega))
  have HB2 := Lib.hid (HB1.out.trans (hb2.mono HB1.out.size))
  clear ho2 hr2 hb2 hf1 hf2
  obtain ⟨q, hq⟩ : ∃ q, decide (idsB L = idsB M) = q := ⟨_, rfl⟩
  rw [hq] at HE
  have HQ := Lib.hid hq
  clear hq
  cases q with
  | false =>
    go_wp2_with fail
    (with_reducible refine HE.out.mono ?_)
    rintro e3 w3 ⟨rfl, hb3⟩
    have HB3 := Lib.hid (HB2.out.trans (hb3.mono HB2.out.size))
    clear hb3
    go_wp2
    go_ret
    exact ⟨by rw [decide_eq_false (fun e => of_decide_eq_false HQ.out (by rw [e]))]; rfl, HB3.out⟩
  | true =>
    go_wp2_with fail
    (with_reducible refine HE.out.mono ?_)
    rintro e3 w3 ⟨rfl, hb3⟩
    have hb3' := HB2.out.trans (hb3.mono HB2.out.size)
    have HB3 := Lib.hid hb3'
    have HX := Lib.hid (text_or w3 B p L er (HT.out.below hb3') (HK.out.below hb3'))
    clear hb3 hb3'
    go_wp2_with fail
    (with_reducible refine HX.out.mono ?_)
    rintro e4 w4 ⟨rfl, hb4⟩
    have hb4' := HB3.out.trans (hb4.mono HB3.out.size)
    have HB4 := Lib.hid hb4'
    have HX' := Lib.hid (text_or w4 B' p' M er (HT.out.below hb4') (HK'.out.below hb4'))
    clear hb4 hb4'
    go_wp2_with fail
    (with_reducible refine HX'.out.mono ?_)
    rintro e5 w5 ⟨rfl, hb5⟩
    have HB5 := Lib.hid (HB4.out.trans (hb5.mono HB4.out.size))
    clear hb5
    obtain ⟨T1, hT1⟩ : ∃ T1, textB L = T1 := ⟨_, rfl⟩
    obtain ⟨T2, hT2⟩ : ∃ T2, textB M = T2 := ⟨_, rfl⟩
    have HT1 := Lib.hid hT1
    have HT2 := Lib.hid hT2
    rw [hT1, hT2]
    clear hT1 hT2
    by_cases he : T1 = T2
    · have hd : decide (T1 = T2) = true := decide_eq_true he
      have h1 : (T1 == T2) = true := beq_iff_eq.2 he
      have h2 : ((mk T1).toList == (mk T2).toList) = true := by rw [mkL, mkL]; exact h1
      have HD := Lib.hid hd
      clear he hd
      go_wp2
      go_ret
      exact ⟨by rw [decide_eq_true (texts_one HK.out.good HK'.out.good HK.out.asc HK'.out.asc HK.out.few HK'.out.few (HT1.out.trans ((of_decide_eq_true HD.out).trans HT2.out.symm)))]; rfl, HB5.out⟩
    · have hd : decide (T1 = T2) = false := decide_eq_false he
      have h1 : (T1 == T2) = false := beq_false_of_ne he
      have h2 : ((mk T1).toList == (mk T2).toList) = false := by rw [mkL, mkL]; exact h1
      have HD := Lib.hid hd
      have HNE := Lib.hid he
      clear hd he
      go_wp2
      go_ret
      exact ⟨by rw [decide_eq_false (fun e => HNE.out (by rw [← HT1.out, ← HT2.out, e]))]; rfl, HB5.out⟩
end Bk
end Go.Proofs.YtghkalamlcfnnaaGreatDoor
end
end
