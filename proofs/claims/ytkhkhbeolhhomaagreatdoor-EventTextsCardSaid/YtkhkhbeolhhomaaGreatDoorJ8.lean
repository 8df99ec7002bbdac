/- CutLaw, FarB, RefNum: texts of this claim, joined. -/
import Derived.Test.YtkhkhbeolhhomaaGreatDoorJ1
import Derived.Lib.IndexMore
import Derived.IntWalk
import Derived.Maps.AppendAt
import Derived.Test.YtkhkhbeolhhomaaGreatDoorDayText
import Derived.Laws.IdiomStrings
import Derived.Deep.CutRange
section
/- A text cut at a byte: plain laws. -/
namespace Go.Proofs.YtkhkhbeolhhomaaGreatDoor
open Go Go.RowKit Go.Shelf Lmd
namespace Tp
open Rul

theorem cut_miss {c : UInt8} {l : List UInt8} (h : c ∉ l) : Lib.cut l [c] = (l, [], false) := by
  have hx : Lib.index l [c] = -1 := (Lib.index_one l c).trans (ix_none h)
  simp [Lib.cut, hx]
theorem cut_hit {c : UInt8} {a r : List UInt8} (h : c ∉ a) : Lib.cut (a ++ c :: r) [c] = (a, r, true) := by
  have hx : Lib.index (a ++ c :: r) [c] = (a.length : Int) := (Lib.index_one _ c).trans (ix_some h)
  simp [Lib.cut, hx]
theorem split_at {c : UInt8} : ∀ {l : List UInt8}, c ∈ l → ∃ a r, l = a ++ c :: r ∧ c ∉ a
  | b :: l, h => by
    by_cases hb : b = c
    · exact ⟨[], l, by rw [hb]; rfl, by simp⟩
    · have h1 : c ∈ l := by
        rcases List.mem_cons.1 h with e | e
        · exact absurd e.symm hb
        · exact e
      obtain ⟨a, r, e, h2⟩ := split_at h1
      exact ⟨b :: a, r, by rw [e]; rfl, by simp [h2, Ne.symm hb]⟩

/-! a length at the beginning of a text -/
def lenOk (c : UInt8) (l : List UInt8) : Bool := (Lib.cut l [c]).2.2 && numOk (Lib.cut l [c]).1
def lenN (c : UInt8) (l : List UInt8) : Int := numIs (Lib.cut l [c]).1
def lenR (c : UInt8) (l : List UInt8) : List UInt8 := (Lib.cut l [c]).2.1
theorem num_of {l : List UInt8} (h : numOk l = true) : 0 ≤ numIs l ∧ numIs l < 1000000000 ∧ Lib.itoa (numIs l) = l := by
  unfold numOk numIs at *
  split at h
  · rename_i v hv
    simp only [Bool.and_eq_true, decide_eq_true_eq] at h
    obtain ⟨⟨h1, h2⟩, h3⟩ := h
    refine ⟨h2, ?_, h3⟩
    obtain ⟨u, rfl⟩ : ∃ u : Nat, v = (u : Int) := ⟨v.toNat, by omega⟩
    have h4 : (Lib.decDigits u).length ≤ 9 := by rw [← Lib.itoa_nonneg, h3]; exact h1
    have := dec_len_ge 9 u h4
    omega
  · cases h
theorem len_split {c : UInt8} {l : List UInt8} (h : lenOk c l = true) : l = Lib.itoa (lenN c l) ++ c :: lenR c l ∧ 0 ≤ lenN c l ∧ lenN c l < 1000000000 := by
  unfold lenOk lenN lenR at *
  simp only [Bool.and_eq_true] at h
  obtain ⟨h1, h2⟩ := num_of h.2
  obtain ⟨h2, h3⟩ := h2
  refine ⟨?_, h1, h2⟩
  rw [h3]
  by_cases hm : c ∈ l
  · obtain ⟨a, r, e, ha⟩ := split_at hm
    rw [e, cut_hit ha]
  · rw [cut_miss hm] at h
    exact absurd h.1 (by simp)
theorem len_of {c : UInt8} (hc : ¬ (48 ≤ c.toNat ∧ c.toNat ≤ 57)) {n : Int} (h0 : 0 ≤ n) (h1 : n < 1000000000) (r : List UInt8) : lenOk c (Lib.itoa n ++ c :: r) = true ∧ lenN c (Lib.itoa n ++ c :: r) = n ∧ lenR c (Lib.itoa n ++ c :: r) = r := by
  have hn := num_back n h0 h1
  have hf := itoa_free (n := n) h0 hc
  unfold lenOk lenN lenR
  rw [cut_hit hf]
  exact ⟨by simp [hn.1], hn.2, rfl⟩

/-! records -/
def recL (s : List UInt8) : List UInt8 := Lib.itoa (s.length : Int) ++ 58 :: (s ++ [10, 46])
def oneB (b : List UInt8) : Bool := lenOk 58 b && decide (lenN 58 b ≤ 10000) && decide (lenN 58 b + 2 ≤ ((lenR 58 b).length : Int)) && decide (((lenR 58 b).drop (lenN 58 b).toNat).take 2 = [10, 46])
def oneS (b : List UInt8) : List UInt8 := (lenR 58 b).take (lenN 58 b).toNat
theorem one_some {b : List UInt8} (h : oneB b = true) : (∃ r, b = recL (oneS b) ++ r) ∧ (oneS b).length ≤ 10000 ∧ ((oneS b).length : Int) = lenN 58 b := by
  simp only [oneB, Bool.and_eq_true, decide_eq_true_eq] at h
  obtain ⟨⟨⟨h1, h2⟩, h3⟩, h4⟩ := h
  obtain ⟨h5, h6, h7⟩ := len_split h1
  have hl : ((oneS b).length : Int) = lenN 58 b := by
    unfold oneS
    rw [List.length_take]; omega
  refine ⟨⟨((lenR 58 b).drop (lenN 58 b).toNat).drop 2, ?_⟩, by omega, hl⟩
  have h8 : lenR 58 b = oneS b ++ ([10, 46] ++ ((lenR 58 b).drop (lenN 58 b).toNat).drop 2) := by
    rw [← h4, List.take_append_drop]
    exact (List.take_append_drop _ _).symm
  unfold recL
  rw [hl]
  conv => lhs; rw [h5]
  conv => lhs; rw [h8]
  simp
theorem one_rec (s r : List UInt8) (hs : s.length ≤ 10000) : oneB (recL s ++ r) = true ∧ oneS (recL s ++ r) = s := by
  have e : recL s ++ r = Lib.itoa (s.length : Int) ++ 58 :: (s ++ ([10, 46] ++ r)) := by simp [recL]
  obtain ⟨h1, h2, h3⟩ := len_of (c := 58) (by decide) (n := (s.length : Int)) (by omega) (by omega) (s ++ ([10, 46] ++ r))
  rw [e]
  unfold oneB oneS
  rw [h1, h2, h3]
  constructor
  · simp; omega
  · simp
theorem recL_inj {s t : List UInt8} (hs : s.length ≤ 10000) (ht : t.length ≤ 10000) {p q : List UInt8} (h : recL s ++ p = recL t ++ q) : s = t ∧ p = q := by
  have h1 := (one_rec s p hs).2
  rw [h, (one_rec t q ht).2] at h1
  subst h1
  exact ⟨rfl, List.append_cancel_left h⟩
theorem one_pre {s p q : List UInt8} (hs : s.length ≤ 10000) (h : recL s = p ++ q) (hq : q ≠ []) : oneB p = false := by
  cases ho : oneB p with
  | false => rfl
  | true =>
    obtain ⟨⟨r, hr⟩, hl, _⟩ := one_some ho
    have : recL s ++ [] = recL (oneS p) ++ (r ++ q) := by rw [List.append_nil, h, ← List.append_assoc, ← hr]
    have h2 := (recL_inj hs hl this).2
    have : q = [] := by
      have := List.append_eq_nil_iff.1 h2.symm
      exact this.2
    exact absurd this hq
theorem recL_pos (s : List UInt8) : 4 ≤ (recL s).length := by
  have : 0 < (Lib.itoa (s.length : Int)).length := by
    rw [Lib.itoa_nonneg]; exact List.length_pos_iff.2 (dec_ne _)
  simp [recL]; omega
theorem recL_le (s : List UInt8) (hs : s.length ≤ 10000) : (recL s).length ≤ s.length + 8 := by
  have : (Lib.itoa (s.length : Int)).length ≤ 5 := by
    rw [Lib.itoa_nonneg]; exact dec_len_le 4 _ (by omega)
  simp [recL]; omega

/-- the records of a text, and how many bytes they have -/
def readT : Nat → List UInt8 → List (List UInt8) × Nat
  | 0, _ => ([], 0)
  | k + 1, b => if oneB b = true then (oneS b :: (readT k (b.drop (recL (oneS b)).length)).1, (recL (oneS b)).length + (readT k (b.drop (recL (oneS b)).length)).2) else ([], 0)
theorem readT_fuel : ∀ (k j : Nat) (b : List UInt8), b.length ≤ k → b.length ≤ j → readT k b = readT j b
  | 0, 0, _, _, _ => rfl
  | 0, j + 1, b, h, _ => by
    have : b = [] := List.length_eq_zero_iff.1 (by omega)
    subst this; rfl
  | k + 1, 0, b, _, h => by
    have : b = [] := List.length_eq_zero_iff.1 (by omega)
    subst this; rfl
  | k + 1, j + 1, b, h1, h2 => by
    simp only [readT]
    split
    · have := recL_pos (oneS b)
      rw [readT_fuel k j _ (by rw [List.length_drop]; omega) (by rw [List.length_drop]; omega)]
    · rfl
def readF (b : List UInt8) : List (List UInt8) × Nat := readT b.length b
theorem readF_no {b : List UInt8} (h : oneB b = false) : readF b = ([], 0) := by
  unfold readF
  cases hb : b.length with
  | zero => rfl
  | succ k => simp [readT, h]
theorem readF_yes (s r : List UInt8) (hs : s.length ≤ 10000) : readF (recL s ++ r) = (s :: (readF r).1, (recL s).length + (readF r).2) := by
  obtain ⟨h1, h2⟩ := one_rec s r hs
  have hp := recL_pos s
  obtain ⟨k, hk⟩ : ∃ k, (recL s ++ r).length = k + 1 := ⟨(recL s ++ r).length - 1, by simp; omega⟩
  unfold readF
  rw [hk]
  simp only [readT, h1, h2, if_true]
  have hd : (recL s ++ r).drop (recL s).length = r := by simp
  rw [hd, readT_fuel k r.length r (by simp at hk; omega) (Nat.le_refl _)]
/-- the records of texts -/
def recsL (l : List (List UInt8)) : List UInt8 := (l.map recL).flatten
theorem readF_recs : ∀ (l : List (List UInt8)) (b : List UInt8), (∀ s ∈ l, s.length ≤ 10000) → readF (recsL l ++ b) = (l ++ (readF b).1, (recsL l).length + (readF b).2)
  | [], b, _ => by simp [recsL]
  | s :: l, b, h => by
    have e : recsL (s :: l) ++ b = recL s ++ (recsL l ++ b) := by simp [recsL]
    rw [e, readF_yes s _ (h s (by simp)), readF_recs l b (fun t ht => h t (by simp [ht]))]
    have e2 : (recsL (s :: l)).length = (recL s).length + (recsL l).length := by simp [recsL]
    rw [e2]
    simp only [List.cons_append, Nat.add_assoc]
theorem readF_nil : readF [] = ([], 0) := rfl
theorem recsL_snoc (l : List (List UInt8)) (s : List UInt8) : recsL (l ++ [s]) = recsL l ++ recL s := by simp [recsL]
end Tp
end Go.Proofs.YtkhkhbeolhhomaaGreatDoor
end

section
/- General laws: texts joined; what a call leaves alone. -/
namespace Go.Proofs.YtkhkhbeolhhomaaGreatDoor
open Go Go.RowKit Lmd
namespace Tp
open Rul Day Cand
theorem mk_cat (a b : List UInt8) : mk a ++ mk b = mk (a ++ b) := cat a b
theorem mk_self (s : ByteArray) : s = mk s.data.toList := str_mk s
theorem own_later {w w' : World} {base : Nat} {e : TypeId} {v : Value} {n : Nat} {xs : List Value} (h : w.ownsRow base e 1 v n xs) (hb : Below w.heap.size w w') : w'.ownsRow base e 1 v n xs := by
  refine h.kept (row := none) ⟨hb.os, hb.tape, hb.output, hb.size, fun k hk _ => hb.block k hk⟩ ?_
  cases hv : v.ownBlock with
  | none => exact .inl rfl
  | some k => exact .inr (by simp)
theorem ownsRow_slice {w : World} {base : Nat} {e : TypeId} {v : Value} {n : Nat} {xs : List Value} (h : w.ownsRow base e 1 v n xs) : ∃ a c, v = .slice a n c := by
  rcases h.2 with ⟨rfl, rfl⟩ | ⟨g, cap, cur, rfl, _⟩
  · exact ⟨_, _, rfl⟩
  · exact ⟨_, _, rfl⟩
theorem below_drew {B : Nat} {a w : World} (h : Below B a w) : Below B a w.drew := below_draw h 1
theorem drew_cell {W : World} {p : Addr} {v : Value} (h : W.cell? p = some v) : W.drew.cell? p = some v := h
theorem own_ge {w : World} {base : Nat} {e : TypeId} {v : Value} {n : Nat} {xs : List Value} (h : w.ownsRow base e 1 v n xs) {j : Nat} (ej : v.ownBlock = some j) : base ≤ j := by
  rcases h.2 with ⟨rfl, _⟩ | ⟨g, cap, cur, rfl, h2, _⟩
  · simp [Value.ownBlock] at ej
  · obtain rfl : g = j := by simpa [Value.ownBlock] using ej
    exact h2
/-- nothing else is touched -/
structure Far (S : Nat → Prop) (w w' : World) : Prop where
  os : w'.os = w.os
  tape : w'.tape = w.tape
  output : w'.output = w.output
  size : w.heap.size ≤ w'.heap.size
  block : ∀ k, k < w.heap.size → ¬ S k → w'.heap[k]? = w.heap[k]?
theorem Far.refl (S : Nat → Prop) (w : World) : Far S w w := ⟨rfl, rfl, rfl, Nat.le_refl _, fun _ _ _ => rfl⟩
theorem Far.trans {S : Nat → Prop} {a b c : World} (h : Far S a b) (k : Far S b c) : Far S a c :=
  ⟨k.os.trans h.os, k.tape.trans h.tape, k.output.trans h.output, Nat.le_trans h.size k.size, fun j hj hs => (k.block j (Nat.lt_of_lt_of_le hj h.size) hs).trans (h.block j hj hs)⟩
theorem Far.below {S : Nat → Prop} {w w' : World} {B : Nat} (h : Far S w w') (hS : ∀ k, S k → B ≤ k) (hB : B ≤ w.heap.size) : Below B w w' :=
  ⟨h.os, h.tape, h.output, h.size, fun k hk => h.block k (by omega) (fun hs => by have := hS k hs; omega)⟩
theorem Far.set {S : Nat → Prop} {w w' : World} (h : Far S w w') {p : Addr} (hp : S p.block) (v : Value) : Far S w (w'.setCell p v) :=
  ⟨h.os, h.tape, h.output, by simpa [World.setCell] using h.size, fun k hk hs => by
    rw [Below.heap_setCell _ _ _ _ (fun e => hs (by rw [e]; exact hp))]; exact h.block k hk hs⟩
theorem Far.drew {S : Nat → Prop} {w w' : World} (h : Far S w.drew w') : Far S w w' := ⟨h.os, h.tape, h.output, h.size, h.block⟩
theorem Far.of_below {S : Nat → Prop} {w w' : World} (h : Below w.heap.size w w') : Far S w w' := ⟨h.os, h.tape, h.output, h.size, fun k hk _ => h.block k hk⟩
/-- more is touched -/
theorem Far.mono {S T : Nat → Prop} {w w' : World} (h : Far S w w') (hS : ∀ k, S k → T k) : Far T w w' := ⟨h.os, h.tape, h.output, h.size, fun k hk ht => h.block k hk fun hs => ht (hS k hs)⟩
end Tp
end Go.Proofs.YtkhkhbeolhhomaaGreatDoor
end

section
/- the reference's Decimal, NumberOf. -/
namespace Go.Proofs.YtkhkhbeolhhomaaGreatDoor
open Go.RowKit Lmd
namespace Ref
open Day

theorem conv_one (w : World) (c : UInt8) :
    (convert 163 9 (.slice (some ⟨w.heap.size, 0, none⟩) 1 1)).run Tryz.prog (w.alloc (.cells #[.int .u8 (c.toNat : Int)] 5)) = .ok (.string ⟨[c].toArray⟩) (w.alloc (.cells #[.int .u8 (c.toNat : Int)] 5)) :=
  run_convert_bytes_back _ 163 9 5 ⟨w.heap.size, 0, none⟩ 1 [c] Tryz.underlying163 Tryz.underlying5 Tryz.underlying9
    (fun j hj => by
      obtain rfl : j = 0 := by simpa using hj
      simp [Addr.add])

set_option maxRecDepth 100000 in
set_option maxHeartbeats 400000 in
theorem byte_any (c : UInt8) (w : World) :
    Calls Tryz.prog 244 #[.int .i64 (c.toNat : Int)] w fun e w' => e = .returned (.string ⟨[c].toArray⟩) ∧ Below w.heap.size w w' := by
  have h2 : (c.toNat : Int) ≤ 255 := by have := c.toNat_lt; omega
  have hc := conv_one w c
  go_enter Tryz.func244, Tryz.ntmps244
  go_wp2
  go_ret
  exact ⟨rfl, (Below.refl _ _).alloc (Nat.le_refl _) _⟩

theorem dec_len64 (u : Nat) (h : u ≤ 1000000000000000000) : (Lib.decDigits u).length ≤ 19 := by
  have key : ∀ (k u : Nat), u < 10 ^ (k + 1) → (Lib.decDigits u).length ≤ k + 1 := by
    intro k
    induction k with
    | zero => intro u hu; rw [Lib.decDigits_one (by simpa using hu)]; simp
    | succ k ih =>
      intro u hu
      by_cases h9 : u < 10
      · rw [Lib.decDigits_one h9]; simp
      · rw [Lib.decDigits, dif_neg h9, List.length_append]
        have := ih (u / 10) (by rw [Nat.pow_succ] at hu; omega)
        simp; omega
  exact key 18 u (by omega)
theorem tdiv_neg (n : Int) (h : n ≤ 0) : n.tdiv 10 = -((-n) / 10) := by
  rw [show n = -(-n) from by omega, Int.neg_tdiv, Int.tdiv_eq_ediv_of_nonneg (by omega)]; simp
theorem tmod_neg (n : Int) (h : n ≤ 0) : n.tmod 10 = -((-n) % 10) := by
  rw [show n = -(-n) from by omega, Int.neg_tmod, Int.tmod_eq_emod_of_nonneg (by omega)]; simp
theorem digit_is (k : Int) (h1 : 0 ≤ k) (h2 : k ≤ 9) : 48 + k = ((Cal.dg k).toNat : Int) := (Cal.dg_nat k h1 h2).symm

set_option maxRecDepth 100000 in
set_option maxHeartbeats 400000 in
theorem below_zero (u : Nat) (hu : u < 10) (w : World) :
    Calls Tryz.prog 184 #[.int .i64 (-(u : Int))] w fun e w' => e = .returned (.string ⟨(Lib.decDigits u).toArray⟩) ∧ Below w.heap.size w w' := by
  have hd := Lib.decDigits_one hu
  have hn : ((UInt8.ofNat (48 + u)).toNat : Int) = 48 + (u : Int) := by rw [UInt8.toNat_ofNat']; omega
  generalize UInt8.ofNat (48 + u) = c at *
  have hb := byte_any c w
  rw [hn] at hb
  clear hn
  rw [hd]
  have HB := Lib.hid hb
  clear hb hd
  go_enter Tryz.func184, Tryz.ntmps184
  go_wp2_with fail
  refine HB.out.mono ?_; rintro e w' ⟨rfl, hb⟩
  go_wp2
  go_ret
  exact ⟨rfl, hb⟩

set_option maxRecDepth 100000 in
set_option maxHeartbeats 400000 in
theorem below_step (u : Nat) (hu : 10 ≤ u) (hm : u ≤ 1000000000000000000) (w : World)
    (ih : ∀ w, Calls Tryz.prog 184 #[.int .i64 (-((u / 10 : Nat) : Int))] w fun e w' => e = .returned (.string ⟨(Lib.decDigits (u / 10)).toArray⟩) ∧ Below w.heap.size w w') :
    Calls Tryz.prog 184 #[.int .i64 (-(u : Int))] w fun e w' => e = .returned (.string ⟨(Lib.decDigits u).toArray⟩) ∧ Below w.heap.size w w' := by
  have hd : Lib.decDigits u = Lib.decDigits (u / 10) ++ [UInt8.ofNat (48 + u % 10)] := by rw [Lib.decDigits, dif_neg (by omega)]
  have hn : ((UInt8.ofNat (48 + u % 10)).toNat : Int) = 48 + (u : Int) % 10 := by rw [UInt8.toNat_ofNat']; omega
  generalize UInt8.ofNat (48 + u % 10) = c at *
  have hb := byte_any c
  rw [hn] at hb
  clear hn
  rw [hd]
  have HB := Lib.hid hb
  have IH := Lib.hid ih
  have hu' : ¬ -(u : Int) > -10 := by omega
  have hl := dec_len64 (u / 10) (by omega)
  clear hb hd ih
  go_enter Tryz.func184, Tryz.ntmps184
  go_wp2_with fail
  rw [show -((u : Int) / 10) = -((u / 10 : Nat) : Int) from by omega]
  refine (IH.out _).mono ?_; rintro e w1 ⟨rfl, hb1⟩
  go_wp2_with fail
  refine (HB.out _).mono ?_; rintro e w2 ⟨rfl, hb2⟩
  go_wp2
  go_ret
  exact ⟨congrArg (fun s => Ending.returned (.string s)) (cat _ [c]), hb1.trans (hb2.mono hb1.size)⟩

theorem below_any (u : Nat) (hm : u ≤ 1000000000000000000) : ∀ w, Calls Tryz.prog 184 #[.int .i64 (-(u : Int))] w fun e w' => e = .returned (.string ⟨(Lib.decDigits u).toArray⟩) ∧ Below w.heap.size w w' := by
  induction u using Nat.strongRecOn with
  | ind u ih =>
    intro w
    by_cases h : u < 10
    · exact below_zero u h w
    · exact below_step u (by omega) hm w (ih (u / 10) (by omega) (by omega))

set_option maxHeartbeats 400000 in
theorem decimal_any (u : Nat) (hm : u ≤ 1000000000000000000) (w : World) :
    Calls Tryz.prog 128 #[.int .i64 (u : Int)] w fun e w' => e = .returned (.string ⟨(Lib.decDigits u).toArray⟩) ∧ Below w.heap.size w w' := by
  have hb := below_any u hm w
  have HB := Lib.hid hb
  clear hb
  go_enter Tryz.func128, Tryz.ntmps128
  go_wp2_with fail
  refine HB.out.mono ?_; rintro e w' ⟨rfl, hb⟩
  go_wp2
  go_ret
  exact ⟨rfl, hb⟩

end Ref
end Go.Proofs.YtkhkhbeolhhomaaGreatDoor
namespace Go.Proofs.YtkhkhbeolhhomaaGreatDoor
open Go Go.RowKit Lmd
namespace Rf
open Rul Day Tp Cand

/-- the number of digits, so many at most, without needless zeros -/
def refNum (D : List UInt8) (most : Nat) : Int :=
  if D.length < 1 ∨ most < D.length ∨ (1 < D.length ∧ D[0]? = some 48) then -1 else if Cal.digs D = true then Cal.numV D else -1
theorem dec_head : ∀ u : Nat, 1 ≤ u → (Lib.decDigits u)[0]? ≠ some 48 := by
  intro u
  induction u using Nat.strongRecOn with
  | ind u ih =>
    intro h
    unfold Lib.decDigits
    split
    · rename_i h9
      intro e
      have e2 : UInt8.ofNat (48 + u) = 48 := by simpa using e
      have := congrArg UInt8.toNat e2
      rw [UInt8.toNat_ofNat'] at this
      have h48 : (48 : UInt8).toNat = 48 := rfl
      omega
    · have h1 := ih (u / 10) (by omega) (by omega)
      have hne := dec_ne (u / 10)
      rw [List.getElem?_append_left (List.length_pos_iff.2 hne)]
      exact h1
theorem dec_digs (u : Nat) : Cal.digs (Lib.decDigits u) = true := by
  unfold Cal.digs
  rw [List.all_eq_true]
  intro c hc
  exact isD_yes (dec_dig u c hc)
theorem dec_num (u : Nat) : Cal.numV (Lib.decDigits u) = (u : Int) := by
  induction u using Nat.strongRecOn with
  | ind u ih =>
    unfold Lib.decDigits
    split
    · rename_i h9
      have h : (UInt8.ofNat (48 + u)).toNat = 48 + u := by rw [UInt8.toNat_ofNat']; omega
      simp only [Cal.numV, List.foldl, h]
      omega
    · have h : (UInt8.ofNat (48 + u % 10)).toNat = 48 + u % 10 := by rw [UInt8.toNat_ofNat']; omega
      rw [Cal.numV_snoc, ih (u / 10) (by omega), h]
      omega
theorem isD_of {c : UInt8} (h : Cal.isD c = true) : 48 ≤ c.toNat ∧ c.toNat ≤ 57 := by
  unfold Cal.isD at h
  exact of_decide_eq_true h
theorem ofNat_self (c : UInt8) : UInt8.ofNat c.toNat = c := by
  apply UInt8.toNat_inj.1
  rw [UInt8.toNat_ofNat']
  have := c.toNat_lt
  omega
/-- digits without a zero ahead are written so -/
theorem dig_back : ∀ (k : Nat) (D : List UInt8), D.length = k → D ≠ [] → Cal.digs D = true → D[0]? ≠ some 48 → 1 ≤ Cal.numV D ∧ Lib.decDigits (Cal.numV D).toNat = D := by
  intro k
  induction k with
  | zero => intro D h hn; exact absurd (List.length_eq_zero_iff.1 h) hn
  | succ k ih =>
    intro D h hn hd h0
    obtain ⟨E, c, rfl⟩ : ∃ l' c, D = l' ++ [c] := ⟨D.dropLast, D.getLast hn, (List.dropLast_concat_getLast hn).symm⟩
    rw [Cal.digs_snoc, Bool.and_eq_true] at hd
    obtain ⟨hd1, hd2⟩ := hd
    have hc := isD_of hd2
    rw [Cal.numV_snoc]
    by_cases he : E = []
    · subst he
      have hne : c ≠ 48 := fun e => h0 (by rw [e]; rfl)
      have hne2 : c.toNat ≠ 48 := fun e => hne (UInt8.toNat_inj.1 e)
      have e0 : Cal.numV [] = 0 := rfl
      rw [e0]
      have e1 : (10 * 0 + ((c.toNat : Int) - 48)).toNat = c.toNat - 48 := by omega
      refine ⟨by omega, ?_⟩
      rw [e1, Lib.decDigits_one (by omega)]
      have e2 : 48 + (c.toNat - 48) = c.toNat := by omega
      rw [e2, ofNat_self]; rfl
    · have hE0 : E[0]? ≠ some 48 := by
        intro e
        apply h0
        rw [List.getElem?_append_left (List.length_pos_iff.2 he)]
        exact e
      obtain ⟨i1, i2⟩ := ih E (by simpa using h) he hd1 hE0
      refine ⟨by omega, ?_⟩
      unfold Lib.decDigits
      rw [dif_neg (by omega)]
      have e1 : (10 * Cal.numV E + ((c.toNat : Int) - 48)).toNat / 10 = (Cal.numV E).toNat := by omega
      have e2 : 48 + (10 * Cal.numV E + ((c.toNat : Int) - 48)).toNat % 10 = c.toNat := by omega
      rw [e1, e2, i2, ofNat_self]
theorem digs_zero : Lib.decDigits 0 = [48] := by
  rw [Lib.decDigits_one (by omega)]; rfl
/-- what NumberOf answers, of nine digits at most -/
theorem refNum_nine (D : List UInt8) : refNum D 9 = if numOk D = true then numIs D else -1 := by
  by_cases hok : numOk D = true
  · obtain ⟨h0, h1, h2⟩ := num_of hok
    obtain ⟨u, hu⟩ : ∃ u : Nat, numIs D = (u : Int) := ⟨(numIs D).toNat, by omega⟩
    rw [hu, Lib.itoa_nonneg] at h2
    rw [if_pos hok, hu]
    have hl1 := dec_len_le 8 u (by omega)
    have hl2 := List.length_pos_iff.2 (dec_ne u)
    unfold refNum
    rw [← h2, dec_num, dec_digs, if_pos rfl]
    rw [if_neg]
    rintro (h | h | ⟨h, h3⟩)
    · omega
    · omega
    · by_cases hz : u = 0
      · subst hz; rw [digs_zero] at h; simp at h
      · exact dec_head u (by omega) h3
  · rw [if_neg hok]
    unfold refNum
    split
    · rfl
    · rename_i hn
      split
      · rename_i hd
        exfalso
        apply hok
        have hne : D ≠ [] := by intro e; subst e; simp at hn
        have hb : D.length ≤ 9 := by omega
        have key : Lib.itoa (Cal.numV D) = D ∧ 0 ≤ Cal.numV D := by
          by_cases h48 : D[0]? = some 48
          · have hl : D.length = 1 := by
              have := List.length_pos_iff.2 hne
              rcases Nat.lt_or_ge 1 D.length with h | h
              · exact absurd (Or.inr (Or.inr ⟨h, h48⟩)) hn
              · omega
            obtain ⟨c, rfl⟩ := List.length_eq_one_iff.1 hl
            have hc : c = 48 := by simpa using h48
            subst hc
            have e : Cal.numV [48] = ((0 : Nat) : Int) := rfl
            rw [e, Lib.itoa_nonneg, digs_zero]
            exact ⟨rfl, by omega⟩
          · obtain ⟨h1, h2⟩ := dig_back _ D rfl hne hd h48
            refine ⟨?_, by omega⟩
            have e : Cal.numV D = ((Cal.numV D).toNat : Int) := by omega
            rw [e, Lib.itoa_nonneg]
            exact h2
        have hbd := Cal.numV_bd _ D rfl hd
        have hp : (10 : Int) ^ D.length ≤ 10 ^ 9 := by
          have h : (10 : Nat) ^ D.length ≤ 10 ^ 9 := Nat.pow_le_pow_right (by omega) hb
          exact_mod_cast h
        have e9 : (10 : Int) ^ 9 = 1000000000 := by decide
        have h := (num_back (Cal.numV D) key.2 (by omega)).1
        rwa [key.1] at h
      · rfl
/-- where a sign stands first -/
def posL (c : UInt8) (l : List UInt8) : Nat := (Lib.cut l [c]).1.length
theorem pos_cases (c : UInt8) (l : List UInt8) : (posL c l < l.length ∧ (Lib.cut l [c]).2.2 = true ∧ l[posL c l]? = some c ∧ l.take (posL c l) = (Lib.cut l [c]).1 ∧ l.drop (posL c l + 1) = lenR c l) ∨ (posL c l = l.length ∧ (Lib.cut l [c]).2.2 = false) := by
  by_cases h : c ∈ l
  · obtain ⟨a, r, e, ha⟩ := split_at h
    left
    unfold posL lenR
    rw [e, cut_hit ha]
    simp
  · right
    unfold posL
    rw [cut_miss h]
    exact ⟨rfl, rfl⟩
theorem pos_ne (c : UInt8) (l : List UInt8) (j : Nat) (h : j < posL c l) : ∃ x, l[j]? = some x ∧ x ≠ c := by
  by_cases hm : c ∈ l
  · obtain ⟨a, r, e, ha⟩ := split_at hm
    have hp : posL c l = a.length := by unfold posL; rw [e, cut_hit ha]
    rw [hp] at h
    refine ⟨a[j], by rw [e, List.getElem?_append_left h]; exact List.getElem?_eq_getElem h, fun e2 => ha (by rw [← e2]; exact List.getElem_mem h)⟩
  · have hp : posL c l = l.length := by unfold posL; rw [cut_miss hm]
    rw [hp] at h
    exact ⟨l[j], List.getElem?_eq_getElem h, fun e2 => hm (by rw [← e2]; exact List.getElem_mem h)⟩
theorem pos_le (c : UInt8) (l : List UInt8) : posL c l ≤ l.length := by
  rcases pos_cases c l with h | h
  · omega
  · omega
end Rf
end Go.Proofs.YtkhkhbeolhhomaaGreatDoor
namespace Go.Proofs.YtkhkhbeolhhomaaGreatDoor
open Go Go.RowKit Lmd
namespace Rf
open Rul Day Tp Cand

theorem pow17 (k : Nat) (h : k ≤ 17) : (10 : Int) ^ k ≤ 100000000000000000 := by
  have h : (10 : Nat) ^ k ≤ 10 ^ 17 := Nat.pow_le_pow_right (by omega) h
  have e : (10 : Nat) ^ 17 = 100000000000000000 := by decide
  have h2 : ((10 ^ k : Nat) : Int) ≤ ((10 ^ 17 : Nat) : Int) := by exact_mod_cast h
  rw [e] at h2
  simpa using h2
set_option maxRecDepth 100000 in
set_option maxHeartbeats 1000000 in
theorem numberOf_any (D : List UInt8) (most : Nat) (w : World) (hm : most ≤ 17) (hD : D.length ≤ 9223372036854775807) :
    Calls Tryz.prog 180 #[.string (mk D), .int .i64 (most : Int)] w fun e w' => e = .returned (.int .i64 (refNum D most)) ∧ ∃ q, w' = w.drewN q := by
  obtain ⟨S, hS⟩ : ∃ S, mk D = S := ⟨_, rfl⟩
  have hsz : S.size = D.length := by rw [← hS]; rfl
  have hSD : S.data.toList = D := by rw [← hS]
  rw [hS]
  have HSD := Lib.hid hSD
  have HSZ := Lib.hid hsz
  clear hS hSD
  by_cases h1 : D.length < 1
  · have hr : refNum D most = -1 := by unfold refNum; rw [if_pos (.inl h1)]
    have HR := Lib.hid hr
    have hz1 : (S.size : Int) < 1 := by omega
    clear hr hsz
    go_enter Tryz.func180, Tryz.ntmps180
    go_wp2
    go_ret
    exact ⟨by rw [HR.out]; rfl, 0, rfl⟩
  by_cases h2 : most < D.length
  · have hr : refNum D most = -1 := by unfold refNum; rw [if_pos (.inr (.inl h2))]
    have HR := Lib.hid hr
    have hz1 : ¬ (S.size : Int) < 1 := by omega
    have hz2 : (most : Int) < (S.size : Int) := by omega
    clear hr hsz
    go_enter Tryz.func180, Tryz.ntmps180
    go_wp2
    go_ret
    exact ⟨by rw [HR.out]; rfl, 0, rfl⟩
  have hz1 : ¬ (S.size : Int) < 1 := by omega
  have hz2 : ¬ (most : Int) < (S.size : Int) := by omega
  have h0 : 0 < S.size := by omega
  obtain ⟨x, hx⟩ : ∃ x, D[0]? = some x := ⟨_, List.getElem?_eq_getElem (by omega)⟩
  have hSx : (S[0] : UInt8) = x := at_of S 0 x h0 (by rw [HSD.out]; exact hx)
  have HX := Lib.hid hx
  have H1 := Lib.hid h1
  have H2 := Lib.hid h2
  clear hx h1 h2
  by_cases h3 : 1 < D.length ∧ D[0]? = some 48
  · have hr : refNum D most = -1 := by unfold refNum; rw [if_pos (.inr (.inr h3))]
    have HR := Lib.hid hr
    obtain rfl : x = 48 := by have h := HX.out; rw [h3.2] at h; exact (Option.some.inj h).symm
    have hz3 : (1 : Int) < (S.size : Int) := by omega
    clear hr h3 hsz
    go_enter Tryz.func180, Tryz.ntmps180
    go_wp2_with fail
    go_ret
    exact ⟨by rw [HR.out]; rfl, 0, rfl⟩
  have hr : refNum D most = if Cal.digs D = true then Cal.numV D else -1 := by
    unfold refNum
    rw [if_neg]
    rintro (h | h | h)
    · exact H1.out h
    · exact H2.out h
    · exact h3 h
  have HR := Lib.hid hr
  have hsm : S.size ≤ 17 := by omega
  have hq : (1 : Int) < (S.size : Int) → ((x.toNat : Int) == 48) = false := by
    intro h
    rw [beq_eq_false_iff_ne]
    intro e
    apply h3
    refine ⟨by omega, ?_⟩
    rw [HX.out]
    congr 1
    exact UInt8.toNat_inj.1 (by show x.toNat = 48; omega)
  have HQ := Lib.hid hq
  clear hr h3 hq hsz
  go_enter Tryz.func180, Tryz.ntmps180
  by_cases h4 : (1 : Int) < (S.size : Int)
  all_goals (
    first
      | have hq2 := HQ.out h4
      | skip
    go_wp2_with fail
    go_loopw [5, 6] (fun n i wr => ∃ k q : Nat, k ≤ S.size ∧ n = .int .i64 (Cal.numV (D.take k)) ∧ i = .int .i64 k ∧ Cal.digs (D.take k) = true ∧ wr = w.drewN q) (fun _ i _ => S.size - (intOf i).toNat)
    case atStart => exact ⟨0, 0, Nat.zero_le _, rfl, rfl, rfl, rfl⟩
    case round =>
      obtain ⟨k, q, hk, rfl, rfl, hd, rfl⟩ := hrel
      have hb := Cal.numV_bd k (D.take k) (by rw [List.length_take]; have := HSZ.out; omega) hd
      have hp := pow17 k (by omega)
      obtain ⟨N, hN⟩ : ∃ N, Cal.numV (D.take k) = N := ⟨_, rfl⟩
      have hN0 : 0 ≤ N := by rw [← hN]; exact hb.1
      have hN1 : N ≤ 100000000000000000 := by rw [← hN]; exact Int.le_trans (Int.le_of_lt hb.2) hp
      rw [hN]
      have HN := Lib.hid hN
      have HD := Lib.hid hd
      clear hd hb hp hN
      by_cases hlt : k < S.size
      · obtain ⟨y, hy⟩ : ∃ y, D[k]? = some y := ⟨_, List.getElem?_eq_getElem (by have := HSZ.out; omega)⟩
        have hSy : (S[k] : UInt8) = y := at_of S k y hlt (by rw [HSD.out]; exact hy)
        have hts : D.take (k + 1) = D.take k ++ [y] := by
          obtain ⟨h1, h2⟩ := List.getElem?_eq_some_iff.1 hy
          rw [List.take_succ_eq_append_getElem h1, h2]
        have HTS := Lib.hid hts
        have hi1 : (k : Int) < (S.size : Int) := by omega
        clear hts hy
        by_cases hdg : 48 ≤ y.toNat ∧ y.toNat ≤ 57
        · have HG := Lib.hid (isD_yes hdg)
          obtain ⟨d1, d2⟩ := hdg
          go_wp2_with fail
          go_roundw
          case rel => exact ⟨k + 1, q, by omega, by rw [HTS.out, Cal.numV_snoc, HN.out], by go_num, by rw [HTS.out, Cal.digs_snoc, HD.out, HG.out]; rfl, rfl⟩
          case measure => simp [intOf]; omega
        · have HG := Lib.hid (isD_no hdg)
          have HNO : Hid (Cal.digs D = false) := digs_take _ (k + 1) (by rw [HTS.out, Cal.digs_snoc, HG.out, Bool.and_false])
          by_cases d1 : y.toNat < 48
          · clear hdg
            go_wp2_with fail
            go_ret
            exact ⟨by rw [HR.out, HNO.out]; rfl, q, rfl⟩
          · have d2 : 57 < y.toNat := by omega
            clear hdg
            go_wp2_with fail
            go_ret
            exact ⟨by rw [HR.out, HNO.out]; rfl, q, rfl⟩
      · have hi1 : ¬ (k : Int) < (S.size : Int) := by omega
        have HT : Hid (D.take k = D) := List.take_of_length_le (by have := HSZ.out; omega)
        go_wp2_with fail
        go_ret
        refine ⟨?_, q, rfl⟩
        rw [HT.out] at HD HN
        rw [HR.out, HD.out, if_pos rfl, HN.out]; rfl)
end Rf
end Go.Proofs.YtkhkhbeolhhomaaGreatDoor
end
