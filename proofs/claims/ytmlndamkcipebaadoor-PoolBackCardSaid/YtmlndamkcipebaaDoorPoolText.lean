/- package pool: the text of a pool. -/
import Derived.Test.YtmlndamkcipebaaDoorPool
import Derived.Test.YtmlndamkcipebaaDoorBuilder
namespace Go.Proofs.YtmlndamkcipebaaDoor
open Go Go.RowKit Lmd
namespace Pl
open Rul Day Cand Tp

/-- a text of a pool, and all of them -/
def entL (s : List UInt8) : List UInt8 := Lib.itoa (s.length : Int) ++ 58 :: (s ++ [10])
def entsL (xs : List (List UInt8)) : List UInt8 := xs.flatMap entL
theorem entsL_snoc (xs : List (List UInt8)) (s : List UInt8) : entsL (xs ++ [s]) = entsL xs ++ entL s := by simp [entsL]
theorem entL_le (s : List UInt8) (hs : s.length ≤ 1000000) : (entL s).length ≤ s.length + 30 := by
  have := Lib.itoa_length_le (s.length : Int) (by omega) (by omega)
  unfold entL
  simp only [List.length_append, List.length_cons, List.length_nil]
  omega
theorem entsL_le : ∀ (xs : List (List UInt8)), (∀ s ∈ xs, s.length ≤ 10000) → (entsL xs).length ≤ 10030 * xs.length
  | [], _ => by simp [entsL]
  | x :: xs, h => by
    have h1 := entL_le x (by have := h x (by simp); omega)
    have h2 := entsL_le xs (fun y hy => h y (by simp [hy]))
    have h3 := h x (by simp)
    have e : (entsL (x :: xs)).length = (entL x).length + (entsL xs).length := by simp [entsL]
    rw [e, List.length_cons]; omega
theorem ent_cat (s : List UInt8) : mk (entL s) = mk (Lib.itoa (s.length : Int)) ++ ⟨#[58]⟩ ++ mk s ++ ⟨#[10]⟩ := by
  have e1 : (⟨#[58]⟩ : ByteArray) = mk [58] := rfl
  have e2 : (⟨#[10]⟩ : ByteArray) = mk [10] := rfl
  rw [e1, e2, mk_cat, mk_cat, mk_cat]
  unfold entL
  simp
/-- the state of the loop of Text -/
structure TxAt (xs : List (List UInt8)) (b : Nat) (W1 : World) (k : Nat) (W : World) : Prop where
  bd : Bd.Is b b (entsL (xs.take k)) W
  low : Below b W1 W
  le : k ≤ xs.length
theorem take_snoc {xs : List (List UInt8)} {k : Nat} {x : List UInt8} (h : xs[k]? = some x) : entsL (xs.take (k + 1)) = entsL (xs.take k) ++ entL x := by
  obtain ⟨hk, rfl⟩ := List.getElem?_eq_some_iff.1 h
  rw [List.take_succ_eq_append_getElem hk, entsL_snoc]
set_option maxRecDepth 100000 in
set_option maxHeartbeats 1000000 in
theorem text_any (w : World) (base p m : Nat) (v : Value) (xs : List (List UInt8)) (h : Is w base p v m xs) (htab : Lib.TabIs Tryd.prog w "internal/strconv.uint64pow10" .u64 Lib.pow10Tab) :
    Calls Tryd.prog 28 #[.pointer (some ⟨p, 0, none⟩)] w fun e w' => e = .returned (.string (mk (entsL xs))) ∧ Below w.heap.size w w' := by
  have k0 : w.cell? ⟨p, 0, none⟩ = some v := cell_of h.row rfl
  obtain ⟨a0, c0, rfl⟩ := ownsRow_slice h.own
  have hB0 : Below w.heap.size w (w.alloc (.cells #[.pointer none, .slice none 0 0] 98)) := (Below.refl _ w).alloc (Nat.le_refl _) _
  have k1 := cell_later hB0 k0
  obtain ⟨W1, hW1⟩ : ∃ W1, w.alloc (.cells #[.pointer none, .slice none 0 0] 98) = W1 := ⟨_, rfl⟩
  have hB1 := hB0
  have hnew := Bd.new_is w
  rw [hW1] at hnew hB1
  have hsz1 : W1.heap.size = w.heap.size + 1 := by rw [← hW1]; simp
  have H := Lib.hid h
  have HT := Lib.hid htab
  have HW1 := Lib.hid hW1
  have HB1 := Lib.hid hB1
  have HNEW := Lib.hid hnew
  have HZ := Lib.hid hsz1
  have hfew := h.few
  clear h htab hW1 hB1 hnew hsz1 hB0
  go_enter Tryd.func28, Tryd.ntmps28
  go_wp2_with fail
  rw [HW1.out]
  clear k0 k1
  go_loopw [11] (fun i wr => ∃ k : Nat, i = .int .i64 k ∧ TxAt xs w.heap.size W1 k wr) (fun i _ => xs.length - (intOf i).toNat)
  case atStart => exact ⟨0, rfl, HNEW.out, Below.refl _ _, Nat.zero_le _⟩
  case round =>
    obtain ⟨k, rfl, hat⟩ := hrel
    have hle := hat.le
    have hall : Below w.heap.size w wr := HB1.out.trans hat.low
    have hszr : w.heap.size ≤ wr.heap.size := hall.size
    by_cases hlt : k < xs.length
    · obtain ⟨x, hx⟩ : ∃ x, xs[k]? = some x := ⟨_, List.getElem?_eq_getElem hlt⟩
      have hi1 : (k : Int) < (xs.length : Int) := by omega
      have hxs := H.out.small x (List.mem_of_getElem? hx)
      have hlen := entsL_le (xs.take k) (fun s hs => H.out.small s (List.mem_of_mem_take hs))
      have hlk : (xs.take k).length = k := by rw [List.length_take]; omega
      rw [hlk] at hlen
      have hel := entL_le x (by omega)
      rcases reads_ownS H.out.own (by simp) with ⟨h1, _⟩ | ⟨g, cap, h1, _, _, h2⟩
      · have : xs = [] := by simpa using h1
        subst this
        simp at hlt
      · have c0' := cell_later hall (h2 k (mk x) (by rw [List.getElem?_map, hx]; rfl))
        rw [Nat.zero_add] at c0'
        have hl : (xs.map mk).length = xs.length := by simp
        rw [hl] at h1
        obtain ⟨rfl, rfl⟩ : a0 = some ⟨g, 0, none⟩ ∧ c0 = cap := by cases h1; exact ⟨rfl, rfl⟩
        have hz : (mk x).size = x.length := rfl
        have hit := itoa_b (x.length : Int) (by omega) (by omega) wr (Frame.tab_below (g := 12) (by kernel_rfl) hall HT.out)
        have hil := Lib.itoa_length_le (x.length : Int) (by omega) (by omega)
        have hrc := ent_cat x
        obtain ⟨I, hI⟩ : ∃ I, Lib.itoa (x.length : Int) = I := ⟨_, rfl⟩
        obtain ⟨S, hS⟩ : ∃ S, mk x = S := ⟨_, rfl⟩
        rw [hI] at hit hil hrc
        rw [hS] at hrc hz c0'
        rw [← hz] at hit
        have hsz : S.size ≤ 10000 := by omega
        have HAT := Lib.hid hat
        have HALL := Lib.hid hall
        have HIT := Lib.hid hit
        have HRC := Lib.hid hrc
        have HX := Lib.hid hx
        have HEL := Lib.hid hel
        have HLEN := Lib.hid hlen
        have HXS := Lib.hid hxs
        clear hat hall hit hrc hx hel hlen h2 h1 hl hI hS hz hxs hlk
        go_wp2_with fail
        (with_reducible refine HIT.out.mono ?_)
        rintro e1 w1 ⟨rfl, hb1⟩
        have hbd := HAT.out.bd.below hb1
        have hw := Bd.write_any w.heap.size w.heap.size (entsL (xs.take k)) (mk (entL x)) w1 hbd (by have h1 := HLEN.out; have h2 := HEL.out; have h3 := HXS.out; show _ + (entL x).length ≤ _; omega) (by have := hb1.size; omega)
        rw [HRC.out] at hw
        have HW := Lib.hid hw
        have HB2 := Lib.hid hb1
        clear hbd hw hb1 HIT
        go_wp2_with fail
        (with_reducible refine HW.out.mono ?_)
        rintro e2 w2 ⟨rfl, hbd2, hb3⟩
        have hat2 : TxAt xs w.heap.size W1 (k + 1) w2 := by
          refine ⟨?_, HAT.out.low.trans ((HB2.out.mono hszr).trans hb3), hlt⟩
          rw [take_snoc HX.out]
          rw [← HRC.out] at hbd2
          exact hbd2
        have HAT2 := Lib.hid hat2
        clear hbd2 hb3 hat2
        go_wp2_with fail
        go_roundw
        case rel => exact ⟨k + 1, by go_num, HAT2.out⟩
        case measure => simp [intOf]; omega
    · obtain rfl : k = xs.length := by omega
      have hi1 : ¬ (xs.length : Int) < (xs.length : Int) := by omega
      have hbd := hat.bd
      rw [List.take_length] at hbd
      have HBD := Lib.hid hbd
      have HALL := Lib.hid hall
      clear hbd hat hall
      go_wp2_with fail
      refine (Bd.string_any w.heap.size w.heap.size (entsL xs) _ HBD.out hszr).mono ?_
      rintro e3 w3 ⟨rfl, hb3⟩
      have HF := Lib.hid (HALL.out.trans hb3)
      clear hb3
      go_wp2_with fail
      go_ret
      exact ⟨rfl, HF.out⟩
end Pl
end Go.Proofs.YtmlndamkcipebaaDoor
