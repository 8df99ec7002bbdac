/- package tape; the walk of the law TapeJoins. -/
import Derived.Test.YtmlndamkcipebaaDoorFar
import Derived.Test.YtmlndamkcipebaaDoorRuleText
import Derived.Test.YtmlndamkcipebaaDoorTexts
import Derived.Maps.AppendAt
import Derived.Lib.AppendStr
import Derived.Lib.FrozenHead
import Derived.Lib.ConvBytes
import Derived.Lib.UnsafeStr
import Derived.Laws.BytesString
import Derived.Deep.RegionLaw
import Derived.IntWalk
namespace Go.Proofs.YtmlndamkcipebaaDoor
open Go Go.RowKit Lmd
namespace Tp
open Rul Day

theorem rec_cat (l : List UInt8) : mk (Lib.itoa (l.length : Int)) ++ ⟨#[58]⟩ ++ mk l ++ ⟨#[10, 46]⟩ = mk (recL l) := by
  have e1 : (⟨#[58]⟩ : ByteArray) = mk [58] := rfl
  have e2 : (⟨#[10, 46]⟩ : ByteArray) = mk [10, 46] := rfl
  rw [e1, e2, mk_cat, mk_cat, mk_cat]
  congr 1
  simp [recL]
set_option maxRecDepth 100000 in
set_option maxHeartbeats 2000000 in
theorem record_any (l : List UInt8) (w : World) (hs : l.length ≤ 2000000) (htab : Lib.TabIs Tryd.prog w "internal/strconv.uint64pow10" .u64 Lib.pow10Tab) :
    Calls Tryd.prog 51 #[.string (mk l)] w fun e w' => e = .returned (.string (mk (recL l))) ∧ Below w.heap.size w w' := by
  have hit := itoa_b (l.length : Int) (by omega) (by omega) w htab
  have hil := Lib.itoa_length_le (l.length : Int) (by omega) (by omega)
  have hrc := rec_cat l
  have hz : (mk l).size = l.length := by simp [ByteArray.size]
  obtain ⟨I, hI⟩ : ∃ I, Lib.itoa (l.length : Int) = I := ⟨_, rfl⟩
  obtain ⟨R, hR⟩ : ∃ R, mk (recL l) = R := ⟨_, rfl⟩
  obtain ⟨S, hS⟩ : ∃ S, mk l = S := ⟨_, rfl⟩
  rw [hI] at hit hil hrc
  rw [hR] at hrc ⊢
  rw [hS] at hrc hz ⊢
  have hsz : S.size ≤ 2000000 := by omega
  rw [← hz] at hit
  have HIT := Lib.hid hit
  have HRC := Lib.hid hrc
  clear hit hrc hI hR hS hz htab
  go_enter Tryd.func51, Tryd.ntmps51
  go_wp2_with fail
  refine HIT.out.mono ?_
  rintro e1 w1 ⟨rfl, hb1⟩
  have HB := Lib.hid hb1
  clear hb1 HIT
  go_wp2
  go_ret
  exact ⟨by rw [← HRC.out]; rfl, HB.out⟩

/-- the first record of a text -/
def oneV (b : List UInt8) : List UInt8 := if oneB b = true then oneS b else []
set_option maxRecDepth 100000 in
set_option maxHeartbeats 2000000 in
theorem one_any (s : ByteArray) (m : Int) (w : World) (hs : s.size ≤ 2000000) (hE : ELib w) (htab : Lib.TabIs Tryd.prog w "internal/strconv.uint64pow10" .u64 Lib.pow10Tab) (hm : w.cell? ⟨13, 0, none⟩ = some (.int .i64 m)) :
    Calls Tryd.prog 53 #[.string s] w fun e w' => e = .returned (.tuple #[.string (mk (oneV s.data.toList)), .bool (oneB s.data.toList)]) ∧ Below w.heap.size w w' := by
  have hl := length_any s m w hs hE htab hm
  obtain ⟨l, hl0⟩ : ∃ l, s.data.toList = l := ⟨_, rfl⟩
  rw [hl0] at hl ⊢
  have hlen : (lenR 58 l).length ≤ 2000000 := by
    have h1 : l.length = s.size := by rw [← hl0]; simp
    have h2 : (lenR 58 l).length ≤ l.length := by
      unfold lenR Lib.cut
      split
      · rw [List.length_drop]; omega
      · simp
    omega
  have HL := Lib.hid hl
  clear hl hl0 hE htab hm
  obtain ⟨R, hR⟩ : ∃ R, lenR 58 l = R := ⟨_, rfl⟩
  obtain ⟨n, hn⟩ : ∃ n, lenN 58 l = n := ⟨_, rfl⟩
  obtain ⟨k, hk⟩ : ∃ k, lenOk 58 l = k := ⟨_, rfl⟩
  have hone : oneB l = (k && decide (n ≤ 10000) && decide (n + 2 ≤ (R.length : Int)) && decide ((R.drop n.toNat).take 2 = [10, 46])) := by rw [← hk, ← hn, ← hR]; rfl
  have hval : oneV l = if oneB l = true then R.take n.toNat else [] := by rw [← hn, ← hR]; rfl
  unfold LenPost at HL
  rw [hR, hn, hk] at HL
  rw [hR] at hlen
  have hpos : k = true → 0 ≤ n := fun h => by rw [← hn]; exact (len_split (by rw [hk]; exact h)).2.1
  obtain ⟨o, ho⟩ : ∃ o, oneB l = o := ⟨_, rfl⟩
  obtain ⟨v, hv⟩ : ∃ v, oneV l = v := ⟨_, rfl⟩
  rw [ho] at hone hval ⊢
  rw [hv] at hval ⊢
  have HO := Lib.hid hone
  have HV := Lib.hid hval
  have HP := Lib.hid hpos
  clear hR hn hk hone hval hpos ho hv
  have hrz : (mk R).size = R.length := by simp [ByteArray.size]
  obtain ⟨S, hS⟩ : ∃ S, mk R = S := ⟨_, rfl⟩
  have hSR : S.data.toList = R := by rw [← hS]
  rw [hS] at HL hrz
  have HSR := Lib.hid hSR
  clear hS hSR
  go_enter Tryd.func53, Tryd.ntmps53
  go_wp2_with fail
  refine HL.out.mono ?_
  rintro e1 w1 ⟨n', rfl, hn', hb1⟩
  have HB := Lib.hid hb1
  clear hb1 HL
  cases k with
  | false =>
    obtain rfl : o = false := by rw [HO.out]; rfl
    obtain rfl : v = [] := by rw [HV.out]; rfl
    clear hn' HO HV HP
    go_wp2
    go_ret2
    exact ⟨rfl, HB.out⟩
  | true =>
    obtain rfl : n' = n := hn' rfl
    have h0 : 0 ≤ n' := HP.out rfl
    clear hn' HP
    by_cases h1 : n' ≤ 10000
    · by_cases h2 : n' + 2 ≤ (R.length : Int)
      · obtain ⟨j, rfl⟩ : ∃ j : Nat, n' = (j : Int) := ⟨n'.toNat, by omega⟩
        have hj2 : j + 2 ≤ S.size := by omega
        have hj3 : (j : Int) + 2 ≤ (S.size : Int) := by omega
        have hj4 : (j : Int) ≤ (S.size : Int) := by omega
        have hS2 : S.size ≤ 2000000 := by omega
        clear h2 hrz hlen
        have hmid : (S.extract j (j + 2)).toList = (R.drop j).take 2 := by
          rw [ByteArray.toList_eq, ext_mid, HSR.out]; congr 1; omega
        have hbeg : S.extract 0 j = mk (R.take j) := mk_of (by rw [ext_take, HSR.out])
        have hd1 : decide ((10000 : Int) < (j : Int)) = false := decide_eq_false (by omega)
        have hd2 : decide ((S.size : Int) < (j : Int) + 2) = false := decide_eq_false (by omega)
        have hz : R.length = S.size := by rw [← HSR.out]; simp
        have hjn : ((j : Int)).toNat = j := by simp
        by_cases he : (R.drop j).take 2 = [10, 46]
        · obtain rfl : o = true := by
            rw [HO.out, hjn, decide_eq_true he, decide_eq_true h1, decide_eq_true (by rw [hz]; exact hj3)]; rfl
          obtain rfl : v = R.take j := by rw [HV.out, if_pos rfl, hjn]
          have hb : ((S.extract j (j + 2)).toList == [10, 46]) = true := by rw [hmid, he]; rfl
          have HBEG := Lib.hid hbeg
          clear hmid hbeg he HO HV HSR hz hjn hd1 hd2
          go_wp2
          go_ret2
          exact ⟨by rw [HBEG.out]; rfl, HB.out⟩
        · obtain rfl : o = false := by rw [HO.out, hjn, decide_eq_false he, Bool.and_false]
          obtain rfl : v = [] := by rw [HV.out]; rfl
          have hb : ((S.extract j (j + 2)).toList == [10, 46]) = false := by rw [hmid]; exact beq_false_of_ne he
          clear hmid hbeg he HO HV HSR hz hjn hd1 hd2
          go_wp2
          go_ret2
          exact ⟨rfl, HB.out⟩
      · obtain rfl : o = false := by rw [HO.out, decide_eq_false h2]; simp
        obtain rfl : v = [] := by rw [HV.out]; rfl
        have h3 : (S.size : Int) < n' + 2 := by omega
        clear HO HV h2 hrz
        go_wp2
        go_ret2
        exact ⟨rfl, HB.out⟩
    · obtain rfl : o = false := by rw [HO.out, decide_eq_false h1]; rfl
      obtain rfl : v = [] := by rw [HV.out]; rfl
      clear HO HV
      go_wp2
      go_ret2
      exact ⟨rfl, HB.out⟩
end Tp
end Go.Proofs.YtmlndamkcipebaaDoor
namespace Go.Proofs.YtmlndamkcipebaaDoor
open Go Go.RowKit Lmd
namespace Tp
open Rul Day

/-- what lies behind tape.Read -/
def ReadPost (l : List UInt8) (w : World) (e : Ending) (w' : World) : Prop :=
  ∃ v, e = .returned (.tuple #[v, .int .i64 ((readF l).2 : Int)]) ∧ w'.ownsRow w.heap.size 9 1 v (readF l).1.length (cellsS ((readF l).1.map mk)) ∧ Below w.heap.size w w'
/-- the state of the loop of tape.Read -/
structure RdAt (s : ByteArray) (w : World) (D : List (List UInt8)) (r : List UInt8) (v : Value) (W : World) : Prop where
  cut : s.data.toList = recsL D ++ r
  le : ∀ x ∈ D, x.length ≤ 10000
  own : W.ownsRow w.heap.size 9 1 v D.length (cellsS (D.map mk))
  below : Below w.heap.size w W
theorem RdAt.rest {s : ByteArray} {w : World} {D : List (List UInt8)} {r : List UInt8} {v : Value} {W : World} (h : RdAt s w D r v W) : s.extract (recsL D).length s.size = Rul.mk r ∧ (recsL D).length + r.length = s.size ∧ 4 * D.length ≤ (recsL D).length := by
  have hz : (recsL D).length + r.length = s.size := by
    have h1 : s.data.toList.length = s.size := by simp
    rw [← h1, h.cut, List.length_append]
  refine ⟨mk_of ?_, hz, ?_⟩
  · rw [ext_mid, h.cut, ← hz]
    have : (recsL D).length + r.length - (recsL D).length = r.length := by omega
    rw [this]; simp
  · clear h hz
    induction D with
    | nil => simp
    | cons x D ih =>
      have h4 := recL_pos x
      have e : (recsL (x :: D)).length = (recL x).length + (recsL D).length := by simp [recsL]
      rw [e, List.length_cons]; omega
theorem RdAt.done {s : ByteArray} {w : World} {D : List (List UInt8)} {r : List UInt8} {v : Value} {W : World} (h : RdAt s w D r v W) (ho : oneB r = false) : readF s.data.toList = (D, (recsL D).length) := by
  rw [h.cut, readF_recs D r h.le, readF_no ho]; simp

set_option maxRecDepth 100000 in
set_option maxHeartbeats 800000 in
theorem read_any (s : ByteArray) (m : Int) (w : World) (hs : s.size ≤ 1100000) (hE : ELib w) (htab : Lib.TabIs Tryd.prog w "internal/strconv.uint64pow10" .u64 Lib.pow10Tab) (hm : w.cell? ⟨13, 0, none⟩ = some (.int .i64 m)) :
    Calls Tryd.prog 14 #[.string s] w (ReadPost s.data.toList w) := by
  obtain ⟨i0, hi0, hz0, hz1, hz2⟩ := info_parts string_info
  have HE := Lib.hid hE
  have HT := Lib.hid htab
  have HM := Lib.hid hm
  clear hE htab hm
  go_enter Tryd.func14, Tryd.ntmps14
  go_wp2_with fail
  go_loopw [4, 5] (fun v4 p wr => ∃ D r, p = .int .i64 ((recsL D).length : Int) ∧ (∃ a c, v4 = .slice a D.length c) ∧ RdAt s w D r v4 wr) (fun _ p _ => s.size - (intOf p).toNat)
  case atStart => exact ⟨[], s.data.toList, rfl, ⟨none, 0, rfl⟩, ⟨rfl, by simp, ⟨by simp [cellsS], .inl ⟨rfl, rfl⟩⟩, Below.refl _ _⟩⟩
  case round =>
    obtain ⟨D, r, rfl, ⟨a4, c4, rfl⟩, hat⟩ := hrel
    obtain ⟨hx, hz, h4⟩ := hat.rest
    have hone := one_any (mk r) m wr (by simp [ByteArray.size]; omega) (HE.out.below hat.below) (Frame.tab_below (g := 12) (by kernel_rfl) hat.below HT.out) (cell_later hat.below HM.out)
    have e1 : (mk r).data.toList = r := rfl
    rw [e1] at hone
    obtain ⟨n, hn⟩ : ∃ n, (recsL D).length = n := ⟨_, rfl⟩
    rw [hn] at hx hz h4 ⊢
    have hns : n ≤ s.size := by omega
    have hsb := hat.below.size
    obtain ⟨X, hX⟩ : ∃ X, mk r = X := ⟨_, rfl⟩
    rw [hX] at hone hx
    have HX := Lib.hid hx
    have HAT := Lib.hid hat
    have HN := Lib.hid hn
    cases ho : oneB r with
    | false =>
      rw [ho] at hone
      have HO := Lib.hid hone
      have hd := hat.done ho
      have HD := Lib.hid hd
      clear hone hz hX hat hn e1 ho hd
      go_wp2_with fail
      (with_reducible refine HO.out.mono ?_)
      rintro e1 w1 ⟨rfl, hb1⟩
      have HB1 := Lib.hid hb1
      clear hb1 HO
      go_wp2
      go_ret2
      refine ⟨_, by rw [HD.out, HN.out]; rfl, ?_, HAT.out.below.trans (HB1.out.mono hsb)⟩
      rw [HD.out]
      exact own_later HAT.out.own HB1.out
    | true =>
      obtain ⟨⟨r', hr'⟩, hl, _⟩ := one_some ho
      obtain ⟨x, hxx⟩ : ∃ x, oneS r = x := ⟨_, rfl⟩
      rw [hxx] at hr' hl
      have hv : oneV r = x := by unfold oneV; rw [if_pos ho, hxx]
      rw [ho, hv] at hone
      have HO := Lib.hid hone
      have hrec := fun W (h : Below w.heap.size w W) => record_any x W (by omega) (Frame.tab_below (g := 12) (by kernel_rfl) h HT.out)
      have HREC := Lib.hid hrec
      have hpos := recL_pos x
      have hrl : (recL x).length + r'.length = r.length := by rw [hr', List.length_append]
      have hrz : (mk (recL x)).size = (recL x).length := by simp [ByteArray.size]
      obtain ⟨q, hq⟩ : ∃ q, (recL x).length = q := ⟨_, rfl⟩
      rw [hq] at hpos hrl hrz
      have hn2 : (recsL (D ++ [x])).length = n + q := by rw [recsL_snoc, List.length_append, hn, hq]
      have hnq : n + q ≤ s.size := by omega
      have HN2 := Lib.hid hn2
      have HX2 := Lib.hid hl
      have HR2 := Lib.hid hr'
      obtain ⟨RX, hRX⟩ : ∃ RX, mk (recL x) = RX := ⟨_, rfl⟩
      rw [hRX] at HREC hrz
      have HRZ := Lib.hid hrz
      clear hone hX hat hn e1 ho hxx hl hr' hv hrec hq hn2 hrl hRX hrz
      go_wp2_with fail
      (with_reducible refine HO.out.mono ?_)
      rintro e1 w1 ⟨rfl, hb1⟩
      have HB1 := Lib.hid hb1
      have HOWN := Lib.hid (own_later HAT.out.own hb1)
      have hs1 := hb1.size
      clear hb1 HO
      go_wp2_with (first
          | (at_builtin
             refine wpList_append_own _ rfl (.tmp 19) (.tmp 21) _ rfl w.heap.size 9 i0 _ 1 16 Tryd.underlying22 hi0 hz0 hz1 hz2 rfl (by omega) (.slice a4 D.length c4) D.length (cellsS (D.map mk)) rfl
               (HOWN.out.alloc _) ⟨w1.heap.size, 0, none⟩ 1 1 [.string (mk x)] rfl rfl
               (fun j u hu => by
                 cases j with
                 | zero =>
                   simp at hu; subst hu
                   exact cell_of (heap_new w1 (.cells #[.string (mk x)] 9)) rfl
                 | succ j => simp at hu) (fun u hu => by simp at hu; subst hu; rfl) (by simp only [maxLen]; omega) (by omega) (by simp; omega) ?_
             intro v1 wb hown' hg hnil
             have hbb : Below w.heap.size w1 wb := ((Below.refl _ w1).alloc (by omega) _).grown hg (by simp; omega) (fun j ej => by
               rcases HOWN.out.2 with ⟨h1, _⟩ | ⟨g, cap, cur, h1, h2, _⟩
               · rw [h1] at ej; simp [Value.ownBlock] at ej
               · rw [h1] at ej; obtain rfl : g = j := by simpa [Value.ownBlock] using ej
                 exact h2)
             obtain ⟨a1, c2, e1⟩ : ∃ a1 c2, v1 = .slice a1 (D.length + 1) c2 := ownsRow_slice hown'
             subst e1
             have HOB := Lib.hid hown'
             have HBB := Lib.hid hbb
             clear hown' hg hnil hbb))
      have hbw1 := HAT.out.below.trans (HB1.out.mono hsb)
      have hbwb := hbw1.trans HBB.out
      have hrc := HREC.out wb hbwb
      have HRC := Lib.hid hrc
      have HBW := Lib.hid hbwb
      clear hrc hbw1 hbwb HREC
      (with_reducible refine HRC.out.mono ?_)
      rintro e2 w3 ⟨rfl, hb3⟩
      have HB3 := Lib.hid hb3
      have hrz := HRZ.out
      have hi1 : (n : Int) + (q : Int) ≤ 1100000 := by omega
      clear hb3 HRC
      go_wp2
      refine ⟨⟨D ++ [x], r', ?_, ?_, ?_⟩, ?_⟩
      · rw [HN2.out, Int.natCast_add]
      · exact ⟨a1, c2, by simp⟩
      · refine ⟨?_, ?_, ?_, HBW.out.trans (HB3.out.mono HBW.out.size)⟩
        · rw [HAT.out.cut, recsL_snoc, HR2.out, List.append_assoc]
        · intro y hy
          rcases List.mem_append.1 hy with h | h
          · exact HAT.out.le y h
          · rw [List.mem_singleton] at h; subst h; exact HX2.out
        · have h := own_later HOB.out HB3.out
          have e : cellsS ((D ++ [x]).map mk) = cellsS (D.map mk) ++ [.string (mk x)] := by simp [cellsS]
          rw [e, List.length_append]; exact h
      · show s.size - ((n : Int) + (q : Int)).toNat < s.size - ((n : Int)).toNat
        omega
end Tp
end Go.Proofs.YtmlndamkcipebaaDoor
namespace Go.Proofs.YtmlndamkcipebaaDoor
open Go Go.RowKit Lmd
namespace Tp

/-- bytes that a slice of its own holds: nothing of its row is frozen -/
def Buf (w : World) (base : Nat) (v : Value) (l : List UInt8) : Prop :=
  ∃ g cap cur fz, v = .slice (some ⟨g, 0, none⟩) l.length cap ∧ base ≤ g ∧ w.heap[g]? = some (.cells cur 5 fz) ∧ (cur.size ≤ fz.1 ∨ fz.2 = 0) ∧ l.length ≤ cap ∧ cap ≤ maxLen ∧ cap ≤ cur.size ∧ cur.toList.take l.length = Lib.byteCells l

theorem Buf.shape {w : World} {base : Nat} {v : Value} {l : List UInt8} (h : Buf w base v l) : ∃ g c, v = .slice (some ⟨g, 0, none⟩) l.length c ∧ base ≤ g ∧ g < w.heap.size := by
  obtain ⟨g, cap, cur, fz, rfl, hb, hg, _⟩ := h
  exact ⟨g, cap, rfl, hb, (Array.getElem?_eq_some_iff.1 hg).1⟩
theorem Buf.le {w : World} {base g c : Nat} {l : List UInt8} (h : Buf w base (.slice (some ⟨g, 0, none⟩) l.length c) l) : l.length ≤ c := by
  obtain ⟨g', cap, cur, fz, e, _, _, _, hc, _⟩ := h
  cases e; exact hc
theorem Buf.kept {w w' : World} {base : Nat} {v : Value} {l : List UInt8} {row : Option Nat} (h : Buf w base v l) (hg : w.grownBy w' row) (hne : v.ownBlock ≠ row) : Buf w' base v l := by
  obtain ⟨g, cap, cur, fz, rfl, hb, hr, rest⟩ := h
  exact ⟨g, cap, cur, fz, rfl, hb, by rw [hg.block g (Array.getElem?_eq_some_iff.1 hr).1 hne]; exact hr, rest⟩
theorem Buf.below {w w' : World} {base : Nat} {v : Value} {l : List UInt8} (h : Buf w base v l) (hb : Below w.heap.size w w') : Buf w' base v l := by
  obtain ⟨g, cap, cur, fz, rfl, hb', hr, rest⟩ := h
  exact ⟨g, cap, cur, fz, rfl, hb', by rw [hb.block g (Array.getElem?_eq_some_iff.1 hr).1]; exact hr, rest⟩
theorem Buf.cells {w : World} {base g c : Nat} {l : List UInt8} (h : Buf w base (.slice (some ⟨g, 0, none⟩) l.length c) l) : ∀ j x, l[j]? = some x → w.cell? ⟨g, j, none⟩ = some (.int .u8 x.toNat) := by
  obtain ⟨g', cap, cur, fz, e, hb, hr, _, _, _, _, ht⟩ := h
  obtain rfl : g = g' := by cases e; rfl
  intro j x hx
  have hj : j < l.length := (List.getElem?_eq_some_iff.1 hx).1
  have h1 : (Lib.byteCells l)[j]? = some (.int .u8 x.toNat) := by simp [Lib.byteCells, hx]
  rw [← ht, List.getElem?_take_of_lt hj] at h1
  simp only [World.cell?, hr]
  simpa using h1
/-- a shorter beginning -/
theorem Buf.cut {w : World} {base g c : Nat} {l a b : List UInt8} (h : Buf w base (.slice (some ⟨g, 0, none⟩) l.length c) l) (e : l = a ++ b) : Buf w base (.slice (some ⟨g, 0, none⟩) a.length a.length) a := by
  obtain ⟨g', cap, cur, fz, e1, hb, hr, hf, hc, hm, hs, ht⟩ := h
  obtain rfl : g = g' := by cases e1; rfl
  have hl : l.length = a.length + b.length := by rw [e, List.length_append]
  refine ⟨g, a.length, cur, fz, rfl, hb, hr, hf, Nat.le_refl _, by omega, by omega, ?_⟩
  have h1 := congrArg (List.take a.length) ht
  rw [List.take_take, Nat.min_eq_left (by omega)] at h1
  rw [h1, e, Lib.byteCells_append]
  have : (Lib.byteCells a).length = a.length := Lib.byteCells_length a
  rw [← this, List.take_left']
  rfl

/-- stores into a row of which nothing is frozen -/
theorem run_storeCells_free (P : Program) (g o : Nat) (t : TypeId) (fz : Nat × Nat) : ∀ (vs : List Value) (i : Nat) (cur : Array Value) (w : World), w.heap[g]? = some (.cells cur t fz) → (cur.size ≤ fz.1 ∨ fz.2 = 0) → o + i + vs.length ≤ cur.size → (∀ v ∈ vs, v.oneCell' = true) →
    (storeCells ⟨g, o, none⟩ vs i).run P w = .ok () (w.setRow g (cur.toList.take (o + i) ++ vs ++ cur.toList.drop (o + i + vs.length)).toArray)
  | [], i, cur, w, hg, _, _, _ => by
    simp only [storeCells, List.append_nil, List.length_nil, Nat.add_zero, List.take_append_drop, Array.toArray_toList]
    rw [setRow_self w g cur t fz hg]
    rfl
  | v :: rest, i, cur, w, hg, hfz, hl, h1 => by
    have hi : o + i < cur.size := by simp at hl; omega
    have hadd : (⟨g, o, none⟩ : Addr).add i = ⟨g, o + i, none⟩ := by unfold Addr.add; split <;> simp_all
    have hcell : w.cell? ⟨g, o + i, none⟩ = some cur[o + i] := by simp [World.cell?, hg, hi]
    have hfro : w.frozen? ⟨g, o + i, none⟩ = false := by
      obtain ⟨lo, hi'⟩ := fz
      simp only [World.frozen?, hg, Bool.and_eq_false_iff, decide_eq_false_iff_not]
      simp only at hfz
      rcases hfz with h | h
      · left; omega
      · right; omega
    have hst : (store ((⟨g, o, none⟩ : Addr).add i) v).run P w = .ok () (w.setRow g (cur.setIfInBounds (o + i) v)) := by
      rw [hadd, run_store P w _ v _ (h1 v (by simp)), hcell]
      simp [hfro, setCell_eq_setRow w g (o + i) cur t fz v hg]
    have ih := run_storeCells_free P g o t fz rest (i + 1) (cur.setIfInBounds (o + i) v) (w.setRow g (cur.setIfInBounds (o + i) v)) (setRow_heap w g cur _ t _ hg) (by simpa using hfz) (by simp at hl ⊢; omega) (fun x hx => h1 x (by simp [hx]))
    simp only [storeCells, Sem.run_bind, hst, Result.andThen_ok, ih, setRow_setRow]
    congr 3
    have e := list_seg_step cur.toList (o + i) v rest (by simp at hl ⊢; omega)
    simpa [Array.toList_setIfInBounds, Nat.add_assoc] using e

section
variable {P : Program} (w : World)
theorem run_append_room_free (t u ty e : TypeId) (i : TypeInfo) (ht : P.underlying t = some (.slice e)) (hu : P.underlying u = some .string) (hi : P.info? e = some i) (hs1 : i.size = 1)
    (g sLen sCap : Nat) (cur : Array Value) (fz : Nat × Nat) (hg : w.heap[g]? = some (.cells cur e fz)) (hfz : cur.size ≤ fz.1 ∨ fz.2 = 0) (s : ByteArray)
    (hroom : sLen + s.size ≤ sCap) (hfit : sLen + s.size ≤ cur.size) :
    (Builtin.append_ #[t, u] ty #[.slice (some ⟨g, 0, none⟩) sLen sCap, .string s]).run P w =
      .ok (.slice (some ⟨g, 0, none⟩) (sLen + s.size) sCap) (w.setRow g (cur.toList.take sLen ++ Lib.strCells s ++ cur.toList.drop (sLen + s.size)).toArray) := by
  have hf := Lib.run_firstCells_string (P := P) w 1 s
  have hst := run_storeCells_free P g sLen e fz (Lib.strCells s) 0 cur w hg hfz (by simpa [Lib.strCells_length] using hfit) (Lib.strCells_oneCell s)
  simp only [Nat.add_zero, Lib.strCells_length] at hst
  simp [Builtin.append_, run_underlying ht, run_underlying hu, sizeOf, typeInfo, hi, hs1, Builtin.lenOf, hroom, hf, Addr.add_lit, hst]

theorem run_append_buf (base : Nat) (t u ty : TypeId) (i : TypeInfo) (ht : P.underlying t = some (.slice 5)) (hu : P.underlying u = some .string) (hi : P.info? 5 = some i) (hz : i.zero = some (.int .u8 0))
    (hsize : i.size = 1) (hby : i.bytes = 1)
    (v : Value) (l : List UInt8) (hown : Buf w base v l) (s : ByteArray)
    (h63 : l.length + s.size ≤ maxLen) (hbytes : l.length + s.size ≤ 140737488355328) (hbase : base ≤ w.heap.size) :
    ∃ v' w', (Builtin.append_ #[t, u] ty #[v, .string s]).run P w = .ok v' w' ∧ Buf w' base v' (l ++ s.data.toList) ∧ w.grownBy w' v.ownBlock ∧ (v'.ownBlock = v.ownBlock ∨ v'.ownBlock = some w.heap.size) := by
  obtain ⟨g, cap, cur, fz, rfl, hbg, hg, hfz, hnc, hcm, hcs, htake⟩ := hown
  have hsmall : l.length + s.size ≤ 9223372036854775807 := by simp only [maxLen] at h63; omega
  have hls : s.data.toList.length = s.size := by simp
  have hlen : (Lib.byteCells (l ++ s.data.toList)).length = l.length + s.size := by rw [Lib.byteCells_length, List.length_append, hls]
  have hsc : Lib.strCells s = Lib.byteCells s.data.toList := rfl
  have hll : (l ++ s.data.toList).length = l.length + s.size := by rw [List.length_append, hls]
  by_cases hroom : l.length + s.size ≤ cap
  · have hr := run_append_room_free (P := P) w t u ty _ i ht hu hi hsize g l.length cap cur fz hg hfz s hroom (by omega)
    have hsz : (cur.toList.take l.length ++ Lib.strCells s ++ cur.toList.drop (l.length + s.size)).toArray.size = cur.size := by
      simp only [List.size_toArray, List.length_append, List.length_take, List.length_drop, Array.length_toList, Lib.strCells_length]
      omega
    refine ⟨_, _, hr, ⟨g, cap, _, fz, by rw [hll], hbg, setRow_heap w g cur _ _ _ hg, ?_, by rw [hll]; omega, hcm, ?_, ?_⟩, ⟨rfl, rfl, rfl, by simp, fun k _ hk => setRow_other w g k _ (fun e => hk (by simp [Value.ownBlock, e]))⟩, .inl rfl⟩
    · rw [hsz]; exact hfz
    · rw [hsz]; exact hcs
    · rw [htake, hsc, ← Lib.byteCells_append, hll, ← hlen]
      exact List.take_left
  · have holds : ∀ j u, (Lib.byteCells l)[j]? = some u → w.cell? ((⟨g, 0, none⟩ : Addr).add j) = some u := by
      intro j u hju
      have hj : j < l.length := by
        have := (List.getElem?_eq_some_iff.1 hju).1
        rwa [Lib.byteCells_length] at this
      rw [← htake, List.getElem?_take_of_lt hj] at hju
      rw [Addr.add_lit]
      simp only [World.cell?, hg, Nat.zero_add]
      simpa using hju
    have hr := Lib.run_append_grow_string (P := P) w t u ty _ i (.int .u8 0) ht hu hi hz ⟨g, 0, none⟩ l.length cap (Lib.byteCells l) (by rw [hsize, Lib.byteCells_length, Nat.mul_one]) holds s (by omega) (by omega) (by rw [hby]; exact growslice_fits (by omega) (by omega))
    have hge := grownCap_ge w (l.length + s.size) cap 5
    have hcm2 : grownCap w (l.length + s.size) cap 5 ≤ maxLen := grownCap_le_maxLen w (l.length + s.size) cap 5 h63
    refine ⟨_, _, hr, ⟨w.heap.size, _, _, (0, 0), by rw [hll], hbase, heap_alloc_new w.drew _, .inr rfl, by rw [hll]; exact hge, hcm2, ?_, ?_⟩, ⟨rfl, rfl, rfl, by simp, fun k hk _ => heap_alloc_old w.drew _ k hk⟩, .inr rfl⟩
    · have hz1 : (Value.int IntKind.u8 0).cells.size = 1 := rfl
      simp only [Array.size_append, List.size_toArray, size_zeroCells, hz1, Lib.byteCells_length, Lib.strCells_length]
      omega
    · simp only [Array.toList_append]
      rw [hsc, ← Lib.byteCells_append, hll, ← hlen]
      exact List.take_left

/-- the append at the operation -/
theorem wpList_append_buf {ops : Array Oper} {rest : List Oper} {o : Oper} {a : Act} {Q : Exit → Act → World → Prop} (hgd : o.guard = none) (sl x : Operand) (t u : TypeId)
    (ho : o.op = .call { callee := .builtin .append, args := #[sl, x], argTypes := #[t, u] })
    (base : Nat) (i : TypeInfo) (ht : P.underlying t = some (.slice 5)) (hu : P.underlying u = some .string) (hi : P.info? 5 = some i) (hz : i.zero = some (.int .u8 0))
    (hsize : i.size = 1) (hby : i.bytes = 1)
    (v : Value) (l : List UInt8) (hs : a.eval sl = v) (hown : Buf w base v l) (s : ByteArray) (hx : a.eval x = .string s)
    (h63 : l.length + s.size ≤ maxLen) (hbytes : l.length + s.size ≤ 140737488355328) (hbase : base ≤ w.heap.size)
    (h : ∀ v' w', Buf w' base v' (l ++ s.data.toList) → w.grownBy w' v.ownBlock → (v'.ownBlock = v.ownBlock ∨ v'.ownBlock = some w.heap.size) → wpList P ops Q rest (a.put o.dst v') w') : wpList P ops Q (o :: rest) a w := by
  refine wpList_plain hgd fun K hK => ?_
  obtain ⟨v', w', hr, h2, h3, h4⟩ := run_append_buf (P := P) w base t u o.type i ht hu hi hz hsize hby v l hown s h63 hbytes hbase
  unfold Oper.wp execOp
  simp only [ho, resolve, invoke, builtin, Sem.run_bind, Sem.run_pure, Result.andThen_ok, List.map_toArray, List.map_cons, List.map_nil, hs, hx, hr]
  exact hK _ _ (h v' w' h2 h3 h4)
/-- .. as one step of a region that draws its order -/
theorem step_append_buf {ops : Array Oper} {o : Oper} {a : Act} {K : Act → World → Prop} {Q : Exit → Act → World → Prop} {E : Prop} (hgd : o.guard = none) (sl x : Operand) (t u : TypeId)
    (ho : o.op = .call { callee := .builtin .append, args := #[sl, x], argTypes := #[t, u] })
    (base : Nat) (i : TypeInfo) (ht : P.underlying t = some (.slice 5)) (hu : P.underlying u = some .string) (hi : P.info? 5 = some i) (hz : i.zero = some (.int .u8 0))
    (hsize : i.size = 1) (hby : i.bytes = 1)
    (v : Value) (l : List UInt8) (hs : a.eval sl = v) (hown : Buf w base v l) (s : ByteArray) (hx : a.eval x = .string s)
    (h63 : l.length + s.size ≤ maxLen) (hbytes : l.length + s.size ≤ 140737488355328) (hbase : base ≤ w.heap.size)
    (h : ∀ v' w', Buf w' base v' (l ++ s.data.toList) → w.grownBy w' v.ownBlock → (v'.ownBlock = v.ownBlock ∨ v'.ownBlock = some w.heap.size) → K (a.put o.dst v') w') :
    if Region.wanted o (yielded ops a.tmps) = true then Oper.wp P o a w K Q else E := by
  have hw : Region.wanted o (yielded ops a.tmps) = true := by simp [Region.wanted, hgd]
  rw [if_pos hw]
  obtain ⟨v', w', hr, h2, h3, h4⟩ := run_append_buf (P := P) w base t u o.type i ht hu hi hz hsize hby v l hown s h63 hbytes hbase
  unfold Oper.wp execOp
  simp only [ho, resolve, invoke, builtin, Sem.run_bind, Sem.run_pure, Result.andThen_ok, List.map_toArray, List.map_cons, List.map_nil, hs, hx, hr]
  exact h v' w' h2 h3 h4
end

/-- a string as bytes -/
theorem buf_of_string (w : World) (s : ByteArray) (hs : s.size ≤ maxLen) : Buf (Lib.bytesWorld w 5 s) w.heap.size (.slice (some ⟨w.heap.size, 0, none⟩) s.size (grownCap w s.size 0 5)) s.data.toList := by
  have hls : s.data.toList.length = s.size := by simp
  have hge := grownCap_ge w s.size 0 5
  have hcs : (Lib.bytesCells w 5 s).size = grownCap w s.size 0 5 := by
    have : s.data.size = s.size := rfl
    simp [Lib.bytesCells]; omega
  refine ⟨w.heap.size, _, _, _, by rw [hls], Nat.le_refl _, Lib.bytesWorld_at_new w 5 s, .inl (Nat.le_refl _), by rw [hls]; exact hge, grownCap_le_maxLen w s.size 0 5 hs, by rw [hcs]; exact Nat.le_refl _, ?_⟩
  rw [hls]
  simp only [Lib.bytesCells, Array.toList_append, Array.toList_map]
  have : (Lib.byteCells s.data.toList).length = s.size := by rw [Lib.byteCells_length, hls]
  rw [← this]
  exact List.take_left
end Tp
end Go.Proofs.YtmlndamkcipebaaDoor
namespace Go.Proofs.YtmlndamkcipebaaDoor
open Go Go.RowKit Lmd
namespace Tp
open Rul Day Cand

/-- a disk: its box, and its bytes -/
structure Dk (w : World) (base p : Nat) (v : Value) (l : List UInt8) (off : Bool) (cut : Int) : Prop where
  row : w.heap[p]? = some (.cells #[v, .bool off, .int .i64 cut] 88 (0, 0))
  buf : Buf w base v l
  ge : base ≤ p
theorem Dk.below {w w' : World} {base p : Nat} {v : Value} {l : List UInt8} {off : Bool} {cut : Int} (h : Dk w base p v l off cut) (hb : Below w.heap.size w w') : Dk w' base p v l off cut := ⟨row_below h.row hb, h.buf.below hb, h.ge⟩
/-- what lies behind tape.NewDisk -/
def NewPost (s : ByteArray) (w : World) (e : Ending) (w' : World) : Prop :=
  ∃ p v, e = .returned (.tuple #[.pointer (some ⟨p, 0, none⟩), .nilIface]) ∧ Dk w' w.heap.size p v s.data.toList false (-1) ∧ Below w.heap.size w w'
theorem foldl_push : ∀ (l : List UInt8) (s : ByteArray), (l.map fun b => (b.toNat : Int)).foldl (fun r n => r.push (UInt8.ofNat n.toNat)) s = s ++ mk l
  | [], s => by
    have : mk [] = ByteArray.empty := rfl
    simp [this]
  | b :: l, s => by
    rw [List.map_cons, List.foldl_cons, foldl_push l]
    have e : s.push (UInt8.ofNat ((b.toNat : Int)).toNat) = s ++ mk [b] := by
      rw [mk_self s, mk_cat]
      apply ByteArray.ext
      apply Array.ext'
      simp [ByteArray.push]
    rw [e, mk_self s, mk_cat, mk_cat, mk_cat]
    simp
theorem string_of_buf (w : World) (g c : Nat) (base : Nat) (l : List UInt8) (h : Buf w base (.slice (some ⟨g, 0, none⟩) l.length c) l) :
    (convert 86 9 (.slice (some ⟨g, 0, none⟩) l.length c)).run Tryd.prog w = .ok (.string (mk l)) w := by
  rw [run_convert_bytes_string w 86 9 5 _ _ _ Tryd.underlying86 Tryd.underlying5 Tryd.underlying9]
  have hl : (loadCells ⟨g, 0, none⟩ l.length).run Tryd.prog w = .ok ((l.map fun b => (b.toNat : Int)).map (Value.int .u8)).toArray w := by
    have h2 := run_loadCells_list (P := Tryd.prog) (w := w) ⟨g, 0, none⟩ ((l.map fun b => (b.toNat : Int)).map (Value.int .u8)) (fun j v hv => by
      have hc := h.cells j
      rw [List.getElem?_map, List.getElem?_map] at hv
      cases hx : l[j]? with
      | none => rw [hx] at hv; cases hv
      | some x =>
        rw [hx] at hv
        cases hv
        rw [Addr.add_lit, Nat.zero_add]
        exact hc x hx)
    simpa using h2
  rw [run_bytesToString w ⟨g, 0, none⟩ l.length c _ hl, foldl_push]
  simp
set_option maxRecDepth 100000 in
set_option maxHeartbeats 800000 in
theorem newDisk_any (s : ByteArray) (w : World) (hs : s.size ≤ 2000) :
    Calls Tryd.prog 12 #[.string s] w (NewPost s w) := by
  have hb := buf_of_string w s (by simp only [maxLen]; omega)
  have hcv := Lib.run_convert_string_bytes w 9 86 5 s Tryd.underlying9 Tryd.underlying86 Tryd.underlying5
  have hbw := Lib.bytesWorld_below w 5 s
  have hz := Lib.bytesWorld_size w 5 s
  obtain ⟨W1, hW1⟩ : ∃ W1, Lib.bytesWorld w 5 s = W1 := ⟨_, rfl⟩
  obtain ⟨c, hc⟩ : ∃ c, grownCap w s.size 0 5 = c := ⟨_, rfl⟩
  rw [hW1] at hb hcv hbw hz
  rw [hc] at hb hcv
  have HB := Lib.hid hb
  have HBW := Lib.hid hbw
  have HZ := Lib.hid hz
  clear hb hW1 hc hbw hz
  go_enter Tryd.func12, Tryd.ntmps12
  go_wp2_with fail
  have hx := heap_new W1 (.cells #[.slice (some ⟨w.heap.size, 0, none⟩) s.size c, .bool false, .int .i64 (-1)] 88)
  have ha : Below W1.heap.size W1 (W1.alloc (.cells #[.slice (some ⟨w.heap.size, 0, none⟩) s.size c, .bool false, .int .i64 (-1)] 88)) := (Below.refl _ W1).alloc (Nat.le_refl _) _
  go_ret2
  exact ⟨_, _, rfl, ⟨hx, HB.out.below ha, by rw [HZ.out]; omega⟩, HBW.out.trans (ha.mono (by rw [HZ.out]; omega))⟩
set_option maxRecDepth 100000 in
set_option maxHeartbeats 800000 in
theorem bytes_any (w : World) (base p : Nat) (v : Value) (l : List UInt8) (off : Bool) (cut : Int) (h : Dk w base p v l off cut) :
    Calls Tryd.prog 15 #[.pointer (some ⟨p, 0, none⟩)] w fun e w' => e = .returned (.string (mk l)) ∧ w' = w := by
  obtain ⟨g, c, rfl, _, _⟩ := h.buf.shape
  have hcv := string_of_buf w g c base l h.buf
  have k0 := cell_of h.row (i := 0) rfl
  clear h
  go_enter Tryd.func15, Tryd.ntmps15
  go_wp2
  go_ret
  exact ⟨rfl, rfl⟩
/-- the errors of tapes -/
structure ET (w : World) (e : Nat → Addr) : Prop where
  s1 : Frame.Sent w 0 (Er.tx [98, 111, 117, 110, 100]) (e 1)
  s2 : Frame.Sent w 1 (Er.tx [115, 104, 97, 112, 101]) (e 2)
  s6 : Frame.Sent w 2 (Er.tx [102, 117, 108, 108]) (e 6)
  s10 : Frame.Sent w 4 (Er.tx [111, 102, 102]) (e 10)
theorem ET.below {w w' : World} {e : Nat → Addr} (h : ET w e) (hb : Below w.heap.size w w') : ET w' e := ⟨h.s1.below hb, h.s2.below hb, h.s6.below hb, h.s10.below hb⟩
/-- what is written: the error's number, the bytes, is power off, the bytes until it fails -/
def wrC (off : Bool) (cut : Int) (s : List UInt8) : Nat := if off = true then 11 else if 0 ≤ cut ∧ cut < s.length then 11 else 0
def wrL (off : Bool) (cut : Int) (l s : List UInt8) : List UInt8 := if off = true then l else if 0 ≤ cut ∧ cut < s.length then l ++ s.take cut.toNat else l ++ s
def wrO (off : Bool) (cut : Int) (s : List UInt8) : Bool := if off = true then true else decide (0 ≤ cut ∧ cut < s.length)
def wrN (off : Bool) (cut : Int) (s : List UInt8) : Int := if off = true then cut else if 0 ≤ cut ∧ cut < s.length then cut else if 0 ≤ cut then cut - s.length else cut
/-- what lies behind a write of bytes -/
def WrPost (e : Nat → Addr) (w : World) (base p : Nat) (v : Value) (c : Nat) (l : List UInt8) (off : Bool) (cut : Int) (er : Ending) (w' : World) : Prop :=
  ∃ v', er = .returned (errV e c) ∧ Dk w' base p v' l off cut ∧ Far (fun k => k = p ∨ some k = v.ownBlock) w w' ∧ (v'.ownBlock = v.ownBlock ∨ ∃ k, v'.ownBlock = some k ∧ w.heap.size ≤ k)
theorem uint8_info : (Tryd.prog.info? 5).map (fun i => (i.zero, i.size, i.bytes)) = some (some (.int .u8 0), 1, 1) := by kernel_rfl
theorem Dk.cells {w : World} {base p : Nat} {v : Value} {l : List UInt8} {off : Bool} {cut : Int} (h : Dk w base p v l off cut) :
    w.cell? ⟨p, 0, none⟩ = some v ∧ w.cell? ⟨p, 1, none⟩ = some (.bool off) ∧ w.cell? ⟨p, 2, none⟩ = some (.int .i64 cut) ∧ w.frozen? ⟨p, 0, none⟩ = false ∧ w.frozen? ⟨p, 1, none⟩ = false ∧ w.frozen? ⟨p, 2, none⟩ = false := by
  simp [World.cell?, World.frozen?, h.row]
theorem Dk.ne {w : World} {base p : Nat} {v : Value} {l : List UInt8} {off : Bool} {cut : Int} (h : Dk w base p v l off cut) : v.ownBlock ≠ some p := by
  obtain ⟨g, cap, cur, fz, rfl, _, hr, _⟩ := h.buf
  intro e
  obtain rfl : g = p := by simpa [Value.ownBlock] using e
  have := h.row
  rw [hr] at this
  have ht : 5 = 88 := by injection this with e1; injection e1
  revert ht; decide
/-- behind an append to the bytes -/
theorem Dk.grown {w wb : World} {base p : Nat} {v : Value} {l : List UInt8} {off : Bool} {cut : Int} (h : Dk w base p v l off cut) (hg : w.grownBy wb v.ownBlock) : wb.heap[p]? = some (.cells #[v, .bool off, .int .i64 cut] 88 (0, 0)) := by
  rw [hg.block p (Array.getElem?_eq_some_iff.1 h.row).1 (Ne.symm h.ne)]; exact h.row
theorem far_grown {w wb : World} {p : Nat} {row : Option Nat} (hg : w.grownBy wb row) : Far (fun k => k = p ∨ some k = row) w wb :=
  ⟨hg.os, hg.tape, hg.output, hg.size, fun k hk hs => hg.block k hk (fun e => hs (.inr e))⟩
theorem Buf.set {w : World} {base : Nat} {v u : Value} {l : List UInt8} {p : Addr} (h : Buf w base v l) (hp : v.ownBlock ≠ some p.block) : Buf (w.setCell p u) base v l := by
  obtain ⟨g, cap, cur, fz, rfl, hb, hr, rest⟩ := h
  exact ⟨g, cap, cur, fz, rfl, hb, by rw [Below.heap_setCell _ _ _ _ (fun e => hp (by simp [Value.ownBlock, e]))]; exact hr, rest⟩
theorem own_ne {w : World} {base p : Nat} {v : Value} {l : List UInt8} {cs : Array Value} (h : Buf w base v l) (hr : w.heap[p]? = some (.cells cs 88 (0, 0))) : v.ownBlock ≠ some p := by
  obtain ⟨g, cap, cur, fz, rfl, _, hr', _⟩ := h
  intro e
  obtain rfl : g = p := by simpa [Value.ownBlock] using e
  rw [hr'] at hr
  have ht : 5 = 88 := by injection hr with e1; injection e1
  revert ht; decide
set_option maxRecDepth 100000 in
set_option maxHeartbeats 800000 in
theorem write_any (w : World) (base p : Nat) (v : Value) (l s : List UInt8) (off : Bool) (cut : Int) (e : Nat → Addr) (h : Dk w base p v l off cut) (he : ET w e) (hl : l.length + s.length ≤ 3000000) (hc : -1 ≤ cut ∧ cut ≤ 9223372036854775807) (hgb : 4 < base) :
    Calls Tryd.prog 52 #[.pointer (some ⟨p, 0, none⟩), .string (mk s)] w (WrPost e w base p v (wrC off cut s) (wrL off cut l s) (wrO off cut s) (wrN off cut s)) := by
  obtain ⟨i0, hi0, hz0, hz1, hz2⟩ := info_parts uint8_info
  obtain ⟨k0, k1, k2, f0, f1, f2⟩ := h.cells
  have cE := he.s10.cell
  have HE := Lib.hid he.s10
  have H := Lib.hid h
  clear h he
  cases off with
  | true =>
    go_enter Tryd.func52, Tryd.ntmps52
    go_wp2
    go_ret
    exact ⟨v, rfl, H.out, ⟨rfl, rfl, rfl, Nat.le_refl _, fun _ _ _ => rfl⟩, .inl rfl⟩
  | false =>
    obtain ⟨S, hS⟩ : ∃ S, mk s = S := ⟨_, rfl⟩
    have hSz : S.size = s.length := by rw [← hS]; simp [ByteArray.size]
    rw [hS]
    have HS := Lib.hid hS
    clear hS
    by_cases hcut : 0 ≤ cut ∧ cut < s.length
    · obtain ⟨g, c, rfl, hg, _⟩ := H.out.buf.shape
      obtain ⟨n, rfl⟩ : ∃ n : Nat, cut = (n : Int) := ⟨cut.toNat, by omega⟩
      have hn : (n : Int) < (S.size : Int) := by omega
      have hn2 : n ≤ S.size := by omega
      have h0 : (0 : Int) ≤ (n : Int) := by omega
      have hmax : l.length + (S.extract 0 n).size ≤ 3000000 := by rw [ByteArray.size_extract]; omega
      have HSZ := Lib.hid hSz
      clear hcut hSz
      go_enter Tryd.func52, Tryd.ntmps52
      go_wp2_with fail
      have hbp : base ≤ w.heap.size := Nat.le_trans H.out.ge (Nat.le_of_lt (Array.getElem?_eq_some_iff.1 H.out.row).1)
      have HD := Lib.hid (show Dk w.drew base p _ l _ _ from ⟨H.out.row, H.out.buf, H.out.ge⟩)
      obtain ⟨L1, hL1⟩ : ∃ L1, l ++ (S.extract 0 n).data.toList = L1 := ⟨_, rfl⟩
      have HLL := Lib.hid hL1
      have hL2 : wrL false n l s = L1 := by
        rw [← hL1, ext_take, ← HS.out]
        unfold wrL
        rw [if_neg (by decide), if_pos ⟨h0, by rw [← HSZ.out]; exact hn⟩]
        simp
      have hC2 : wrC false n s = 11 := by unfold wrC; rw [if_neg (by decide), if_pos ⟨h0, by rw [← HSZ.out]; exact hn⟩]
      have hO2 : wrO false n s = true := by unfold wrO; rw [if_neg (by decide)]; exact decide_eq_true ⟨h0, by rw [← HSZ.out]; exact hn⟩
      have hN2 : wrN false n s = n := by unfold wrN; rw [if_neg (by decide), if_pos ⟨h0, by rw [← HSZ.out]; exact hn⟩]
      have HQ := Lib.hid (And.intro hC2 (And.intro hL2 (And.intro hO2 hN2)))
      clear hL1 hL2 hC2 hO2 hN2
      go_region_law (refine step_append_buf _ rfl (.tmp 28) (.tmp 34) 86 9 rfl base i0 Tryd.underlying86 Tryd.underlying9 hi0 hz0 hz1 hz2 (.slice (some ⟨g, 0, none⟩) l.length c) l rfl HD.out.buf (S.extract 0 n) rfl (by simp only [maxLen]; omega) (by omega) hbp ?_
                     intro v1 wb hb1 hg1 ho1
                     have hrb := HD.out.grown hg1
                     have c0 : wb.cell? ⟨p, 0, none⟩ = some (.slice (some ⟨g, 0, none⟩) l.length c) := by simp [World.cell?, hrb]
                     have d0 : wb.frozen? ⟨p, 0, none⟩ = false := by simp [World.frozen?, hrb]
                     rw [HLL.out] at hb1
                     obtain ⟨g1, c1, rfl, hgg1, _⟩ := hb1.shape
                     have HB1 := Lib.hid hb1
                     have HG1 := Lib.hid hg1
                     have HO1 := Lib.hid ho1
                     have HRB := Lib.hid hrb
                     clear hb1 hg1 ho1 hrb)
      all_goals (
        have hx := row_set HRB.out 0 (.slice (some ⟨g1, 0, none⟩) L1.length c1)
        have hfar : Far (fun k => k = p ∨ some k = Value.ownBlock (.slice (some ⟨g, 0, none⟩) l.length c)) w (wb.setCell ⟨p, 0, none⟩ (.slice (some ⟨g1, 0, none⟩) L1.length c1)) := (far_grown (p := p) HG1.out).drew.set (p := ⟨p, 0, none⟩) (.inl rfl) _
        have hbuf := HB1.out.set (p := ⟨p, 0, none⟩) (u := .slice (some ⟨g1, 0, none⟩) L1.length c1) (own_ne HB1.out HRB.out)
        obtain ⟨W2, hW2⟩ : ∃ W2, wb.setCell ⟨p, 0, none⟩ (.slice (some ⟨g1, 0, none⟩) L1.length c1) = W2 := ⟨_, rfl⟩
        rw [hW2] at hx hfar hbuf ⊢
        have hlow : Below base w W2 := hfar.below (fun k hk => by
          rcases hk with rfl | hk
          · exact H.out.ge
          · obtain rfl : k = g := by simpa [Value.ownBlock] using hk
            exact hg) hbp
        have cE2 : W2.cell? ⟨4, 0, none⟩ = _ := (hlow.cell hgb).trans cE
        have q1 : W2.cell? ⟨p, 1, none⟩ = some (.bool false) := cell_of hx rfl
        have e1 : W2.frozen? ⟨p, 1, none⟩ = false := by simp [World.frozen?, hx]
        have HX := Lib.hid hx
        have HFAR := Lib.hid hfar
        have HBUF := Lib.hid hbuf
        have hgp : 4 ≠ p := by have := H.out.ge; omega
        clear hx hfar hbuf hW2 c0 d0 k0 k1 k2 f0 f1 f2 cE hlow
        go_wp2
        go_ret
        obtain ⟨hC2, hL2, hO2, hN2⟩ := HQ.out
        rw [hC2, hL2, hO2, hN2]
        refine ⟨_, rfl, ⟨row_set HX.out 1 (.bool true), HBUF.out.set (p := ⟨p, 1, none⟩) (u := .bool true) (own_ne HBUF.out HX.out), H.out.ge⟩, HFAR.out.set (p := ⟨p, 1, none⟩) (.inl rfl) _, ?_⟩
        rcases HO1.out with h | h
        · exact .inl h
        · exact .inr ⟨_, h, Nat.le_refl _⟩)
    · have hC2 : wrC false cut s = 0 := by unfold wrC; rw [if_neg (by decide), if_neg hcut]
      have hL2 : wrL false cut l s = l ++ s := by unfold wrL; rw [if_neg (by decide), if_neg hcut]
      have hO2 : wrO false cut s = false := by unfold wrO; rw [if_neg (by decide)]; exact decide_eq_false hcut
      have hN2 : wrN false cut s = if 0 ≤ cut then cut - s.length else cut := by unfold wrN; rw [if_neg (by decide), if_neg hcut]
      have HQ := Lib.hid (And.intro hC2 (And.intro hL2 (And.intro hO2 hN2)))
      clear hC2 hL2 hO2 hN2
      obtain ⟨g, c, rfl, hg, _⟩ := H.out.buf.shape
      have hbp : base ≤ w.heap.size := Nat.le_trans H.out.ge (Nat.le_of_lt (Array.getElem?_eq_some_iff.1 H.out.row).1)
      have hSD : S.data.toList = s := by rw [← HS.out]
      have HSD := Lib.hid hSD
      have HSZ := Lib.hid hSz
      by_cases h0 : 0 ≤ cut
      · have h1 : ¬ (cut < (S.size : Int)) := by omega
        have hm1 : -9223372036854775808 ≤ cut - (S.size : Int) := by omega
        have HSZ2 := Lib.hid (show (((S.data.toList).length : Nat) : Int) = (S.size : Int) by simp)
        have hsz3 : S.size ≤ 3000000 := by omega
        have hl3 : l.length + S.size ≤ 3000000 := by omega
        have hD : Dk (w.setCell ⟨p, 2, none⟩ (.int .i64 (cut - (S.size : Int)))) base p (.slice (some ⟨g, 0, none⟩) l.length c) l false (cut - (S.size : Int)) := ⟨row_set H.out.row 2 _, H.out.buf.set (p := ⟨p, 2, none⟩) (own_ne H.out.buf H.out.row), H.out.ge⟩
        have hW0 : Far (fun k => k = p ∨ some k = Value.ownBlock (.slice (some ⟨g, 0, none⟩) l.length c)) w (w.setCell ⟨p, 2, none⟩ (.int .i64 (cut - (S.size : Int)))) := (Far.refl _ w).set (p := ⟨p, 2, none⟩) (.inl rfl) _
        have hsW : (w.setCell ⟨p, 2, none⟩ (.int .i64 (cut - (S.size : Int)))).heap.size = w.heap.size := by simp [World.setCell]
        have HD := Lib.hid hD
        have HW0 := Lib.hid hW0
        have HSW := Lib.hid hsW
        obtain ⟨L1, hL1⟩ : ∃ L1, l ++ S.data.toList = L1 := ⟨_, rfl⟩
        have HLL := Lib.hid hL1
        clear hcut hSz hSD hD hW0 hsW hL1
        go_enter Tryd.func52, Tryd.ntmps52
        go_wp2_with (first
          | (at_builtin
             refine wpList_append_buf _ rfl (.tmp 60) (.tmp 61) 86 9 rfl base i0 Tryd.underlying86 Tryd.underlying9 hi0 hz0 hz1 hz2 (.slice (some ⟨g, 0, none⟩) l.length c) l rfl HD.out.buf S rfl (by simp only [maxLen]; omega) (by omega) (by rw [HSW.out]; exact hbp) ?_
             intro v1 wb hb1 hg1 ho1
             have hrb := HD.out.grown hg1
             have c0 : wb.cell? ⟨p, 0, none⟩ = some (.slice (some ⟨g, 0, none⟩) l.length c) := by simp [World.cell?, hrb]
             have d0 : wb.frozen? ⟨p, 0, none⟩ = false := by simp [World.frozen?, hrb]
             rw [HLL.out] at hb1
             obtain ⟨g1, c1, rfl, hgg1, _⟩ := hb1.shape
             have HB1 := Lib.hid hb1
             have HG1 := Lib.hid hg1
             have HO1 := Lib.hid ho1
             have HRB := Lib.hid hrb
             clear hb1 hg1 ho1 hrb))
        go_ret
        obtain ⟨hC2, hL2, hO2, hN2⟩ := HQ.out
        rw [hC2, hL2, hO2, hN2, if_pos h0, ← HSD.out, HLL.out]
        refine ⟨_, rfl, ⟨by rw [HSZ2.out]; exact row_set HRB.out 0 _, HB1.out.set (p := ⟨p, 0, none⟩) (own_ne HB1.out HRB.out), H.out.ge⟩, (HW0.out.trans (far_grown (p := p) HG1.out)).set (p := ⟨p, 0, none⟩) (.inl rfl) _, ?_⟩
        rcases HO1.out with h | h
        · exact .inl h
        · exact .inr ⟨_, h, by rw [HSW.out]; exact Nat.le_refl _⟩
      · have h1 : cut < 0 := by omega
        have hsz3 : S.size ≤ 3000000 := by omega
        have hl3 : l.length + S.size ≤ 3000000 := by omega
        have hD : Dk w base p (.slice (some ⟨g, 0, none⟩) l.length c) l false cut := H.out
        have hW0 : Far (fun k => k = p ∨ some k = Value.ownBlock (.slice (some ⟨g, 0, none⟩) l.length c)) w w := Far.refl _ w
        have HD := Lib.hid hD
        have HW0 := Lib.hid hW0
        obtain ⟨L1, hL1⟩ : ∃ L1, l ++ S.data.toList = L1 := ⟨_, rfl⟩
        have HLL := Lib.hid hL1
        clear hcut hSz hSD hD hW0 hL1
        go_enter Tryd.func52, Tryd.ntmps52
        go_wp2_with (first
          | (at_builtin
             refine wpList_append_buf _ rfl (.tmp 60) (.tmp 61) 86 9 rfl base i0 Tryd.underlying86 Tryd.underlying9 hi0 hz0 hz1 hz2 (.slice (some ⟨g, 0, none⟩) l.length c) l rfl HD.out.buf S rfl (by simp only [maxLen]; omega) (by omega) hbp ?_
             intro v1 wb hb1 hg1 ho1
             have hrb := HD.out.grown hg1
             have c0 : wb.cell? ⟨p, 0, none⟩ = some (.slice (some ⟨g, 0, none⟩) l.length c) := by simp [World.cell?, hrb]
             have d0 : wb.frozen? ⟨p, 0, none⟩ = false := by simp [World.frozen?, hrb]
             rw [HLL.out] at hb1
             obtain ⟨g1, c1, rfl, hgg1, _⟩ := hb1.shape
             have HB1 := Lib.hid hb1
             have HG1 := Lib.hid hg1
             have HO1 := Lib.hid ho1
             have HRB := Lib.hid hrb
             clear hb1 hg1 ho1 hrb))
        go_ret
        obtain ⟨hC2, hL2, hO2, hN2⟩ := HQ.out
        rw [hC2, hL2, hO2, hN2, if_neg (by omega), ← HSD.out, HLL.out]
        refine ⟨_, rfl, ⟨row_set HRB.out 0 _, HB1.out.set (p := ⟨p, 0, none⟩) (own_ne HB1.out HRB.out), H.out.ge⟩, (HW0.out.trans (far_grown (p := p) HG1.out)).set (p := ⟨p, 0, none⟩) (.inl rfl) _, ?_⟩
        rcases HO1.out with h | h
        · exact .inl h
        · exact .inr ⟨_, h, Nat.le_refl _⟩
end Tp
end Go.Proofs.YtmlndamkcipebaaDoor
namespace Go.Proofs.YtmlndamkcipebaaDoor
open Go Go.RowKit Lmd
namespace Tp
open Rul Day Cand

theorem WrPost.later {e : Nat → Addr} {w w2 : World} {base p : Nat} {v : Value} {c : Nat} {l : List UInt8} {off : Bool} {cut : Int} {er : Ending} {w' : World} (h : WrPost e w2 base p v c l off cut er w') (hb : Below w.heap.size w w2) : WrPost e w base p v c l off cut er w' := by
  obtain ⟨v', h1, h2, h3, h4⟩ := h
  refine ⟨v', h1, h2, (Far.of_below hb).trans h3, ?_⟩
  rcases h4 with h4 | ⟨k, h4, h5⟩
  · exact .inl h4
  · exact .inr ⟨k, h4, Nat.le_trans hb.size h5⟩
/-- an append of a record: the error's number, the bytes, is power off, the bytes until it fails -/
def apBad (l s : List UInt8) : Nat := if 10000 < s.length then 2 else if 1048576 < (recL s).length + l.length then 7 else 0
def apC (off : Bool) (cut : Int) (l s : List UInt8) : Nat := if apBad l s = 0 then wrC off cut (recL s) else apBad l s
def apL (off : Bool) (cut : Int) (l s : List UInt8) : List UInt8 := if apBad l s = 0 then wrL off cut l (recL s) else l
def apO (off : Bool) (cut : Int) (l s : List UInt8) : Bool := if apBad l s = 0 then wrO off cut (recL s) else off
def apN (off : Bool) (cut : Int) (l s : List UInt8) : Int := if apBad l s = 0 then wrN off cut (recL s) else cut
set_option maxRecDepth 100000 in
set_option maxHeartbeats 800000 in
theorem append_any (w : World) (base p : Nat) (v : Value) (l s : List UInt8) (off : Bool) (cut : Int) (e : Nat → Addr) (h : Dk w base p v l off cut) (he : ET w e) (hl : l.length ≤ 1048576) (hs : s.length ≤ 1000000) (hc : -1 ≤ cut ∧ cut ≤ 9223372036854775807) (hgb : 4 < base)
    (htab : Lib.TabIs Tryd.prog w "internal/strconv.uint64pow10" .u64 Lib.pow10Tab) :
    Calls Tryd.prog 13 #[.pointer (some ⟨p, 0, none⟩), .string (mk s)] w (WrPost e w base p v (apC off cut l s) (apL off cut l s) (apO off cut l s) (apN off cut l s)) := by
  obtain ⟨k0, k1, k2, f0, f1, f2⟩ := h.cells
  obtain ⟨g, c, rfl, hg, _⟩ := h.buf.shape
  have c1 := he.s1.cell
  have c6 := he.s6.cell
  have hrec := fun W (h : Below w.heap.size w W) => record_any s W (by omega) (Frame.tab_below (g := 12) (by kernel_rfl) h htab)
  have hsz : (mk s).size = s.length := by simp [ByteArray.size]
  obtain ⟨S, hS⟩ : ∃ S, mk s = S := ⟨_, rfl⟩
  rw [hS] at hsz hrec ⊢
  have HREC := Lib.hid hrec
  have HSZ := Lib.hid hsz
  have HE := Lib.hid he
  have H := Lib.hid h
  have HT := Lib.hid htab
  have HS := Lib.hid hS
  clear h he hrec hS htab
  by_cases h1 : 10000 < s.length
  · have hb : apBad l s = 2 := by unfold apBad; rw [if_pos h1]
    have hsz2 : (10000 : Int) < (S.size : Int) := by omega
    have HB := Lib.hid hb
    clear hb hsz h1
    go_enter Tryd.func13, Tryd.ntmps13
    go_wp2
    go_ret
    unfold apC apL apO apN
    rw [HB.out]
    exact ⟨_, rfl, H.out, Far.refl _ _, .inl rfl⟩
  · have hsz2 : ¬ ((10000 : Int) < (S.size : Int)) := by omega
    have hrz : (mk (recL s)).size = (recL s).length := by simp [ByteArray.size]
    have hrl := recL_le s (by omega)
    obtain ⟨R, hR⟩ : ∃ R, mk (recL s) = R := ⟨_, rfl⟩
    rw [hR] at HREC hrz
    have hrz2 : R.size ≤ 2000000 := by omega
    have HRZ := Lib.hid hrz
    have HR := Lib.hid hR
    clear hsz hrz hR
    go_enter Tryd.func13, Tryd.ntmps13
    go_wp2_with fail
    have HD0 := Lib.hid (below_drew (Below.refl w.heap.size w))
    have HK0 := Lib.hid (drew_cell k0)
    go_cut [14] from 15 (fun s14 wc => s14 = .bool (decide ((1048576 : Int) - (l.length : Int) < (R.size : Int))) ∧ Below w.heap.size w wc)
    case first =>
      have hs1 : IntKind.i64.wrap ((1048576 : Int) - (l.length : Int)) = (1048576 : Int) - (l.length : Int) := IntWalk.i64_in _ (by omega)
      go_region_with (first
        | (go_at_call 51; (with_reducible refine (HREC.out w.drew HD0.out).mono ?_); rintro e1 w1 ⟨rfl, hb1⟩; have k0b := cell_later hb1 HK0.out))
      all_goals go_wp2_with fail
      all_goals go_meet
      all_goals exact ⟨rfl, HD0.out.trans hb1⟩
    case rest =>
      obtain ⟨rfl, hbc⟩ := hcut
      have HD := Lib.hid (H.out.below hbc)
      have c6' := cell_later hbc c6
      have HBC := Lib.hid hbc
      by_cases hf : (1048576 : Int) - (l.length : Int) < (R.size : Int)
      · have hb : apBad l s = 7 := by
          unfold apBad
          rw [if_neg h1, if_pos (by have := HRZ.out; omega)]
        have HB := Lib.hid hb
        clear hb hbc c6 k0 k1 k2 f0 f1 f2
        go_wp2
        go_ret
        unfold apC apL apO apN
        rw [HB.out]
        exact ⟨_, rfl, HD.out, Far.of_below HBC.out, .inl rfl⟩
      · have hb : apBad l s = 0 := by
          unfold apBad
          rw [if_neg h1, if_neg (by have := HRZ.out; omega)]
        have HB := Lib.hid hb
        have hrc := HREC.out wc hbc
        have HRC := Lib.hid hrc
        clear hb hbc c6 c6' k0 k1 k2 f0 f1 f2 hrc HREC
        go_wp2_with fail
        (with_reducible refine HRC.out.mono ?_)
        rintro e1 w2 ⟨rfl, hb2⟩
        have hbw := HBC.out.trans (hb2.mono HBC.out.size)
        have hwr := write_any w2 base p _ l (recL s) off cut e (H.out.below hbw) (HE.out.below hbw) (by omega) hc hgb
        have hR := HR.out
        rw [hR] at hwr
        have HWR := Lib.hid hwr
        have HBW := Lib.hid hbw
        clear hb2 hbw hwr hR HRC
        go_wp2_with fail
        (with_reducible refine HWR.out.mono ?_)
        rintro e2 w3 hpost
        have hp2 := WrPost.later hpost HBW.out
        obtain ⟨v', rfl, h3, h4, h5⟩ := hp2
        have H3 := Lib.hid h3
        have H4 := Lib.hid h4
        have H5 := Lib.hid h5
        clear hpost h3 h4 h5 HWR
        go_wp2
        go_ret
        unfold apC apL apO apN
        rw [HB.out]
        exact ⟨v', rfl, H3.out, H4.out, H5.out⟩
end Tp
end Go.Proofs.YtmlndamkcipebaaDoor
namespace Go.Proofs.YtmlndamkcipebaaDoor
open Go Go.RowKit Lmd
namespace Tp
open Rul Day Cand

set_option maxRecDepth 100000 in
set_option maxHeartbeats 800000 in
theorem on_any (w : World) (base p : Nat) (v : Value) (l : List UInt8) (off : Bool) (cut : Int) (h : Dk w base p v l off cut) :
    Calls Tryd.prog 48 #[.pointer (some ⟨p, 0, none⟩)] w fun e w' => e = .returned (.tuple #[]) ∧ Dk w' base p v l false (-1) ∧ Far (fun k => k = p) w w' := by
  obtain ⟨k0, k1, k2, f0, f1, f2⟩ := h.cells
  have H := Lib.hid h
  clear h
  go_enter Tryd.func48, Tryd.ntmps48
  go_wp2
  go_end0
  refine ⟨rfl, ⟨row_set (row_set H.out.row 1 (.bool false)) 2 (.int .i64 (-1)), ?_, H.out.ge⟩, ?_⟩
  · exact (H.out.buf.set (p := ⟨p, 1, none⟩) (u := .bool false) (own_ne H.out.buf H.out.row)).set (p := ⟨p, 2, none⟩) (own_ne H.out.buf H.out.row)
  · exact ((Far.refl (fun k => k = p) w).set (p := ⟨p, 1, none⟩) (show p = p from rfl) _).set (p := ⟨p, 2, none⟩) (show p = p from rfl) _
set_option maxRecDepth 100000 in
set_option maxHeartbeats 800000 in
theorem power_any (w : World) (base p : Nat) (v : Value) (l : List UInt8) (off : Bool) (cut : Int) (h : Dk w base p v l off cut) :
    Calls Tryd.prog 21 #[.pointer (some ⟨p, 0, none⟩)] w fun e w' => e = .returned (.bool (!off)) ∧ w' = w := by
  obtain ⟨k0, k1, k2, f0, f1, f2⟩ := h.cells
  clear h
  go_enter Tryd.func21, Tryd.ntmps21
  go_wp2
  go_ret
  exact ⟨rfl, rfl⟩
def cutC (off : Bool) (n : Int) : Nat := if n < 0 then 2 else if off = true then 11 else 0
set_option maxRecDepth 100000 in
set_option maxHeartbeats 800000 in
theorem cut_any (w : World) (base p : Nat) (v : Value) (l : List UInt8) (off : Bool) (cut n : Int) (e : Nat → Addr) (h : Dk w base p v l off cut) (he : ET w e) :
    Calls Tryd.prog 19 #[.pointer (some ⟨p, 0, none⟩), .int .i64 n] w fun er w' => er = .returned (errV e (cutC off n)) ∧ Dk w' base p v l off (if cutC off n = 0 then n else cut) ∧ Far (fun k => k = p) w w' := by
  obtain ⟨k0, k1, k2, f0, f1, f2⟩ := h.cells
  have c1 := he.s1.cell
  have c10 := he.s10.cell
  have H := Lib.hid h
  clear h he
  by_cases h0 : n < 0
  · have hc : cutC off n = 2 := if_pos h0
    rw [hc]
    go_enter Tryd.func19, Tryd.ntmps19
    go_wp2
    go_ret
    exact ⟨rfl, H.out, Far.refl _ _⟩
  · cases off with
    | true =>
      have hc : cutC true n = 11 := by unfold cutC; rw [if_neg h0]; rfl
      rw [hc]
      go_enter Tryd.func19, Tryd.ntmps19
      go_wp2
      go_ret
      exact ⟨rfl, H.out, Far.refl _ _⟩
    | false =>
      have hc : cutC false n = 0 := by unfold cutC; rw [if_neg h0]; rfl
      rw [hc]
      go_enter Tryd.func19, Tryd.ntmps19
      go_wp2
      go_ret
      exact ⟨rfl, ⟨row_set H.out.row 2 _, H.out.buf.set (p := ⟨p, 2, none⟩) (own_ne H.out.buf H.out.row), H.out.ge⟩, (Far.refl (fun k => k = p) w).set (p := ⟨p, 2, none⟩) (show p = p from rfl) _⟩
theorem readT_le : ∀ (k : Nat) (l : List UInt8), (readT k l).2 ≤ l.length
  | 0, _ => Nat.zero_le _
  | k + 1, l => by
    simp only [readT]
    split
    · rename_i h
      obtain ⟨⟨r, hr⟩, _⟩ := one_some h
      have h2 := readT_le k (l.drop (recL (oneS l)).length)
      have h3 : (recL (oneS l)).length ≤ l.length := by
        have := congrArg List.length hr
        rw [List.length_append] at this; omega
      rw [List.length_drop] at h2
      simp only; omega
    · exact Nat.zero_le _
theorem readF_le (l : List UInt8) : (readF l).2 ≤ l.length := readT_le _ l
/-- what lies behind tape.Recover -/
def RecPost (w : World) (base p : Nat) (v : Value) (l : List UInt8) (e : Ending) (w' : World) : Prop :=
  ∃ u v', e = .returned (.tuple #[u, .nilIface]) ∧ w'.ownsRow w.heap.size 9 1 u (readF l).1.length (cellsS ((readF l).1.map mk)) ∧ Dk w' base p v' (l.take (readF l).2) false (-1) ∧ v'.ownBlock = v.ownBlock ∧ Far (fun k => k = p) w w'
theorem own_base {w : World} {b b' : Nat} {e : TypeId} {v : Value} {n : Nat} {xs : List Value} (h : w.ownsRow b e 1 v n xs) (hb : b' ≤ b) : w.ownsRow b' e 1 v n xs := by
  refine ⟨h.1, ?_⟩
  rcases h.2 with hx | ⟨g, cap, cur, h1, h2, h3⟩
  · exact .inl hx
  · exact .inr ⟨g, cap, cur, h1, Nat.le_trans hb h2, h3⟩
theorem far_low {w w' W0 : World} {p : Nat} (h : Far (fun k => k = p) w w') (hW : Below W0.heap.size W0 w) (hp : W0.heap.size ≤ p) : Below W0.heap.size W0 w' :=
  hW.trans (h.below (fun k hk => by rw [hk]; exact hp) hW.size)
set_option maxRecDepth 100000 in
set_option maxHeartbeats 800000 in
theorem recover_any (W0 w : World) (p : Nat) (v : Value) (l : List UInt8) (off : Bool) (cut : Int) (m : Int) (h : Dk w W0.heap.size p v l off cut) (hW : Below W0.heap.size W0 w) (hl : l.length ≤ 1100000) (hE : ELib W0) (htab : Lib.TabIs Tryd.prog W0 "internal/strconv.uint64pow10" .u64 Lib.pow10Tab) (hm : W0.cell? ⟨13, 0, none⟩ = some (.int .i64 m)) :
    Calls Tryd.prog 20 #[.pointer (some ⟨p, 0, none⟩)] w (RecPost w W0.heap.size p v l) := by
  have hon := on_any w W0.heap.size p v l off cut h
  have HON := Lib.hid hon
  have HE := Lib.hid hE
  have HT := Lib.hid htab
  have HM := Lib.hid hm
  have H := Lib.hid h
  have HW := Lib.hid hW
  clear h hon hE htab hm hW
  go_enter Tryd.func20, Tryd.ntmps20
  go_wp2_with fail
  (with_reducible refine HON.out.mono ?_)
  rintro e1 w1 ⟨rfl, h1, hf1⟩
  obtain ⟨g, c, rfl, hg, _⟩ := h1.buf.shape
  obtain ⟨k0, k1, k2, f0, f1, f2⟩ := h1.cells
  have hcv := string_of_buf w1 g c W0.heap.size l h1.buf
  have hb1 := far_low hf1 HW.out h1.ge
  have hrd := read_any (mk l) m w1 (by simp [ByteArray.size]; omega) (HE.out.below hb1) (Frame.tab_below (g := 12) (by kernel_rfl) hb1 HT.out) (cell_later hb1 HM.out)
  have e0 : (mk l).data.toList = l := rfl
  rw [e0] at hrd
  have HRD := Lib.hid hrd
  have H1 := Lib.hid h1
  have HF1 := Lib.hid hf1
  clear hrd h1 hf1 hb1 e0 HON
  go_wp2_with fail
  (with_reducible refine HRD.out.mono ?_)
  rintro e2 w2 ⟨u, rfl, hown, hb2⟩
  obtain ⟨ua, uc, rfl⟩ := ownsRow_slice hown
  have h2 := H1.out.below hb2
  obtain ⟨k0, k1, k2, f0, f1, f2⟩ := h2.cells
  have hsp := readF_le l
  obtain ⟨n, hn⟩ : ∃ n, (readF l).2 = n := ⟨_, rfl⟩
  obtain ⟨D, hD⟩ : ∃ D, (readF l).1 = D := ⟨_, rfl⟩
  have hnl : n ≤ l.length := by rw [← hn]; exact hsp
  have hnc : n ≤ c := Nat.le_trans hnl h2.buf.le
  have HN := Lib.hid hn
  have HD := Lib.hid hD
  rw [hD] at hown ⊢
  rw [hn] at ⊢
  have H2 := Lib.hid h2
  have HOWN := Lib.hid hown
  have HB2 := Lib.hid hb2
  clear h2 hown hb2 hn hD hcv HRD
  go_wp2
  go_ret2
  have hlt : (l.take n).length = n := by rw [List.length_take]; omega
  have hcutb := H2.out.buf.cut (a := l.take n) (b := l.drop n) (List.take_append_drop n l).symm
  rw [hlt] at hcutb
  have hp1 : p < w1.heap.size := (Array.getElem?_eq_some_iff.1 H1.out.row).1
  have ho := own_base (own_far HOWN.out (p := ⟨p, 0, none⟩) (u := .slice (some ⟨g, 0, none⟩) n n) hp1) HF1.out.size
  refine ⟨_, _, rfl, ?_, ⟨row_set H2.out.row 0 _, by rw [HN.out]; exact hcutb.set (p := ⟨p, 0, none⟩) (own_ne hcutb H2.out.row), H2.out.ge⟩, rfl, ?_⟩
  · rw [HD.out]; exact ho
  · exact (HF1.out.trans (Far.of_below HB2.out)).set (p := ⟨p, 0, none⟩) (show p = p from rfl) _
end Tp
end Go.Proofs.YtmlndamkcipebaaDoor
namespace Go.Proofs.YtmlndamkcipebaaDoor
open Go Go.RowKit Lmd
namespace Tx
open Rul
/-- are the first k texts of two lists alike -/
def alikeTo (xs ys : List ByteArray) (k : Nat) : Prop := ∀ j, j < k → xs[j]? = ys[j]?
theorem alike_eq {xs ys : List ByteArray} (hl : xs.length = ys.length) (h : alikeTo xs ys xs.length) : xs = ys := by
  apply List.ext_getElem?
  intro i
  by_cases hi : i < xs.length
  · exact h i hi
  · rw [List.getElem?_eq_none (by omega), List.getElem?_eq_none (by omega)]
theorem ba_ne {a b : ByteArray} (h : a ≠ b) : (a.toList == b.toList) = false := by
  rw [beq_eq_false_iff_ne]
  intro e
  rw [ByteArray.toList_eq, ByteArray.toList_eq] at e
  exact h (by rw [str_mk a, str_mk b, e])
set_option maxRecDepth 100000 in
set_option maxHeartbeats 800000 in
theorem sameTexts_any (w : World) (va vb : Value) (xs ys : List ByteArray) (ha : Rd w va xs) (hb : Rd w vb ys) (hx : xs.length ≤ 1000000) (hy : ys.length ≤ 1000000) :
    Calls Tryd.prog 16 #[va, vb] w fun e w' => e = .returned (.bool (decide (xs = ys))) ∧ ∃ q, w' = w.drewN q := by
  obtain ⟨a1, c1, rfl⟩ := ha.shape
  obtain ⟨a2, c2, rfl⟩ := hb.shape
  by_cases hl : xs.length = ys.length
  · by_cases hx0 : xs = []
    · subst hx0
      obtain rfl : ys = [] := List.length_eq_zero_iff.1 hl.symm
      clear ha hb
      go_enter Tryd.func16, Tryd.ntmps16
      go_wp2
      refine wp_loop_rounds 1 ?_
      rw [rounds_succ]
      go_wp2
      go_ret
      exact ⟨rfl, 0, rfl⟩
    · obtain ⟨b1, o1, c1', e1, hc1⟩ := ha.at hx0
      obtain ⟨b2, o2, c2', e2, hc2⟩ := hb.at (by rintro rfl; apply hx0; exact List.length_eq_zero_iff.1 hl)
      obtain ⟨rfl, rfl⟩ : a1 = some ⟨b1, o1, none⟩ ∧ c1 = c1' := by cases e1; exact ⟨rfl, rfl⟩
      obtain ⟨rfl, rfl⟩ : a2 = some ⟨b2, o2, none⟩ ∧ c2 = c2' := by cases e2; exact ⟨rfl, rfl⟩
      clear ha hb e1 e2
      have HC1 := Lib.hid hc1
      have HC2 := Lib.hid hc2
      have HL := Lib.hid hl
      have hq : ((xs.length : Int) != (ys.length : Int)) = false := by rw [hl]; simp
      have hle : ys.length ≤ xs.length := by omega
      have hge : xs.length ≤ ys.length := by omega
      clear hc1 hc2 hl hx0
      go_enter Tryd.func16, Tryd.ntmps16
      go_wp2
      go_loopw [5] (fun i wr => ∃ (k q : Nat), k ≤ xs.length ∧ i = .int .i64 k ∧ wr = w.drewN q ∧ alikeTo xs ys k) (fun i _ => xs.length - (intOf i).toNat)
      case atStart => exact ⟨0, 0, Nat.zero_le _, rfl, rfl, fun _ h => by omega⟩
      case round =>
        obtain ⟨k, q, hk, rfl, rfl, hs⟩ := hrel
        have HS := Lib.hid hs
        clear hs
        by_cases hlt : k < xs.length
        · obtain ⟨x, hxk⟩ : ∃ x, xs[k]? = some x := ⟨_, List.getElem?_eq_getElem hlt⟩
          obtain ⟨y, hyk⟩ : ∃ y, ys[k]? = some y := ⟨_, List.getElem?_eq_getElem (by omega)⟩
          have c1 := HC1.out k x hxk
          have c2 := HC2.out k y hyk
          have hlt2 : k < ys.length := by omega
          have hi1 : (k : Int) < (xs.length : Int) := by omega
          have hi2 : (k : Int) < (ys.length : Int) := by omega
          by_cases he : x = y
          · have hne : (x.toList == y.toList) = true := by rw [he]; simp
            have hxy : xs[k]? = ys[k]? := by rw [hxk, hyk, he]
            have HE := Lib.hid hxy
            clear he hxk hyk hxy
            go_wp2
            go_quiet (fail)
            go_wp2
            go_roundw
            case rel => exact ⟨k + 1, _, by omega, by go_num, rfl, fun j hj => by
              by_cases e : j = k
              · subst e; exact HE.out
              · exact HS.out j (by omega)⟩
            case measure => simp [intOf]; omega
          · have hne : (x.toList == y.toList) = false := ba_ne he
            have hxy : xs ≠ ys := by
              intro e
              rw [e, hyk] at hxk
              exact he (Option.some.inj hxk).symm
            have HE := Lib.hid hxy
            clear he hxk hyk hxy
            go_wp2
            go_quiet (fail)
            go_wp2
            go_ret
            exact ⟨Ints.ret_bool' (decide_eq_false HE.out).symm, _, Ints.drewN_add _ _ _⟩
        · obtain rfl : k = xs.length := by omega
          go_wp2
          go_ret
          exact ⟨Ints.ret_bool' (decide_eq_true (alike_eq HL.out HS.out)).symm, _, rfl⟩
  · have hd : decide (xs = ys) = false := decide_eq_false (fun h => hl (by rw [h]))
    have hq : ((xs.length : Int) != (ys.length : Int)) = true := by rw [bne_iff_ne]; omega
    have HD := Lib.hid hd
    clear ha hb hd hl
    go_enter Tryd.func16, Tryd.ntmps16
    go_wp2
    go_ret
    exact ⟨Ints.ret_bool' HD.out.symm, 0, rfl⟩
end Tx
end Go.Proofs.YtmlndamkcipebaaDoor
namespace Go.Proofs.YtmlndamkcipebaaDoor
open Go Go.RowKit Lmd
namespace Tp
open Rul Day Cand

/-- what the laws of tapes stand on -/
structure TEnv (w : World) (e : Nat → Addr) (m : Int) : Prop where
  et : ET w e
  lib : ELib w
  tab : Lib.TabIs Tryd.prog w "internal/strconv.uint64pow10" .u64 Lib.pow10Tab
  ml : w.cell? ⟨13, 0, none⟩ = some (.int .i64 m)
theorem TEnv.below {w w' : World} {e : Nat → Addr} {m : Int} (h : TEnv w e m) (hb : Below w.heap.size w w') : TEnv w' e m :=
  ⟨h.et.below hb, h.lib.below hb, Frame.tab_below (g := 12) (by kernel_rfl) hb h.tab, cell_later hb h.ml⟩
theorem Buf.base_le {w : World} {b b' : Nat} {v : Value} {l : List UInt8} (h : Buf w b v l) (hb : b' ≤ b) : Buf w b' v l := by
  obtain ⟨g, cap, cur, fz, h1, h2, h3⟩ := h
  exact ⟨g, cap, cur, fz, h1, Nat.le_trans hb h2, h3⟩
theorem Dk.base_le {w : World} {b b' p : Nat} {v : Value} {l : List UInt8} {off : Bool} {cut : Int} (h : Dk w b p v l off cut) (hb : b' ≤ b) : Dk w b' p v l off cut := ⟨h.row, h.buf.base_le hb, Nat.le_trans hb h.ge⟩
theorem toList_mk (l : List UInt8) : (mk l).toList = l := by rw [ByteArray.toList_eq]
theorem Dk.far_ge {w : World} {base p : Nat} {v : Value} {l : List UInt8} {off : Bool} {cut : Int} (h : Dk w base p v l off cut) {k : Nat} (hk : k = p ∨ some k = v.ownBlock) : base ≤ k := by
  rcases hk with rfl | hk
  · exact h.ge
  · obtain ⟨g, c, rfl, hg, _⟩ := h.buf.shape
    obtain rfl : k = g := by simpa [Value.ownBlock] using hk
    exact hg
theorem ab_rec : recL [97, 32, 98] = [51, 58, 97, 32, 98, 10, 46] := by
  unfold recL
  rw [Lib.itoa_nonneg]
  unfold Lib.decDigits
  rfl
set_option maxRecDepth 100000 in
set_option maxHeartbeats 800000 in
theorem taped_any (e : Nat → Addr) (m : Int) (w : World) (h : TEnv w e m) :
    Calls Tryd.prog 11 #[] w fun e' w' => e' = .returned (.bool true) ∧ Below w.heap.size w w' := by
  have hn := newDisk_any ⟨#[]⟩ w (by decide)
  have HN := Lib.hid hn
  have HE := Lib.hid h
  clear hn h
  go_enter Tryd.func11, Tryd.ntmps11
  go_wp2_with fail
  (with_reducible refine HN.out.mono ?_)
  rintro e1 w1 ⟨p, v, rfl, hd, hb1⟩
  have h1 := HE.out.below hb1
  have hlt : 4 < w.heap.size := cell_lt HE.out.et.s10.cell
  have e0 : (⟨#[]⟩ : ByteArray).data.toList = [] := rfl
  rw [e0] at hd
  have hap := append_any w1 w.heap.size p v [] [97, 32, 98] false (-1) e hd h1.et (by decide) (by decide) (by decide) hlt h1.tab
  have hc : apC false (-1) [] [97, 32, 98] = 0 ∧ apL false (-1) [] [97, 32, 98] = recL [97, 32, 98] ∧ apO false (-1) [] [97, 32, 98] = false ∧ apN false (-1) [] [97, 32, 98] = -1 := by
    unfold apC apL apO apN apBad
    rw [ab_rec]
    decide
  obtain ⟨c1, c2, c3, c4⟩ := hc
  rw [c1, c2, c3, c4] at hap
  have HAP := Lib.hid hap
  have HD := Lib.hid hd
  have HB1 := Lib.hid hb1
  clear hap hd hb1 h1 e0 c1 c2 c3 c4 HN
  go_wp2_with fail
  (with_reducible refine HAP.out.mono ?_)
  rintro e2 w2 ⟨v2, rfl, hd2, hf2, _⟩
  simp only [errV]
  have hb2 : Below w.heap.size w w2 := HB1.out.trans (hf2.below (fun k hk => HD.out.far_ge hk) HB1.out.size)
  have h2 := HE.out.below hb2
  have hrc := recover_any w w2 p v2 (recL [97, 32, 98]) false (-1) m hd2 hb2 (by rw [ab_rec]; decide) HE.out.lib HE.out.tab HE.out.ml
  have HRC := Lib.hid hrc
  have HD2 := Lib.hid hd2
  have HB2 := Lib.hid hb2
  clear hrc hd2 hf2 hb2 h2 HAP HD
  go_wp2_with fail
  (with_reducible refine HRC.out.mono ?_)
  rintro e3 w3 ⟨u, v3, rfl, hown, hd3, _, hf3⟩
  have hrf : readF (recL [97, 32, 98]) = ([[97, 32, 98]], (recL [97, 32, 98]).length) := by
    have h := readF_yes [97, 32, 98] [] (by decide)
    rw [List.append_nil, readF_nil] at h
    exact h
  rw [hrf] at hown hd3
  rw [List.take_length] at hd3
  have hb3 : Below w.heap.size w w3 := far_low hf3 HB2.out hd3.ge
  obtain ⟨ua, uc, rfl⟩ := ownsRow_slice hown
  have HOWN := Lib.hid hown
  have HD3 := Lib.hid hd3
  have HB3 := Lib.hid hb3
  clear hown hd3 hf3 hb3 hrf HRC
  go_wp2_with fail
  have hx4 := heap_new w3 (.cells #[.string ⟨#[97, 32, 98]⟩] 9)
  have hb4 : Below w3.heap.size w3 (w3.alloc (.cells #[.string ⟨#[97, 32, 98]⟩] 9)) := (Below.refl _ w3).alloc (Nat.le_refl _) _
  have hrb : Tx.Rd (w3.alloc (.cells #[.string ⟨#[97, 32, 98]⟩] 9)) (.slice (some ⟨w3.heap.size, 0, none⟩) 1 1) [⟨#[97, 32, 98]⟩] := by
    refine .inr ⟨w3.heap.size, 0, 1, rfl, fun j x hx => ?_⟩
    cases j with
    | zero => cases hx; exact cell_of hx4 rfl
    | succ j => cases hx
  have hra : Tx.Rd (w3.alloc (.cells #[.string ⟨#[97, 32, 98]⟩] 9)) (.slice ua 1 uc) [⟨#[97, 32, 98]⟩] := (Tx.rd_own (xs := [⟨#[97, 32, 98]⟩]) HOWN.out rfl).below hb4
  have hst := Tx.sameTexts_any _ _ _ _ _ hra hrb (by decide) (by decide)
  rw [decide_eq_true rfl] at hst
  have hby := fun q => bytes_any _ _ p v3 _ _ _ ((HD3.out.below hb4).below (below_draw (Below.refl _ _) q))
  rw [ab_rec] at hby
  have HST := Lib.hid hst
  have HBY := Lib.hid hby
  have HF := Lib.hid (HB3.out.trans (hb4.mono HB3.out.size))
  clear hx4 hb4 hrb hra hst hby
  (with_reducible refine HST.out.mono ?_)
  rintro e4 w5 ⟨rfl, q, rfl⟩
  have hby := HBY.out q
  have HBQ := Lib.hid hby
  have HF2 := Lib.hid (HF.out.trans (below_draw (Below.refl _ _) q))
  clear hby HBY HST
  go_wp2_with fail
  (with_reducible refine HBQ.out.mono ?_)
  rintro e6 w6 ⟨rfl, rfl⟩
  have hh : (mk [51, 58, 97, 32, 98, 10, 46]).toList = [51, 58, 97, 32, 98, 10, 46] := toList_mk _
  go_wp2
  go_ret
  exact ⟨rfl, HF2.out⟩
end Tp
end Go.Proofs.YtmlndamkcipebaaDoor
namespace Go.Proofs.YtmlndamkcipebaaDoor
open Go Go.RowKit Lmd
namespace Tp
open Rul Day Cand

/-- the records of the first k texts -/
def pre (xs : List ByteArray) (k : Nat) : List UInt8 := recsL ((xs.take k).map (·.data.toList))
theorem take_succ {xs : List ByteArray} {k : Nat} {x : ByteArray} (h : xs[k]? = some x) : xs.take (k + 1) = xs.take k ++ [x] := by
  obtain ⟨hk, rfl⟩ := List.getElem?_eq_some_iff.1 h
  exact List.take_succ_eq_append_getElem hk
theorem pre_succ {xs : List ByteArray} {k : Nat} {x : ByteArray} (h : xs[k]? = some x) : pre xs (k + 1) = pre xs k ++ recL x.data.toList := by
  unfold pre
  rw [take_succ h, List.map_append, List.map_cons, List.map_nil, recsL_snoc]
theorem recsL_le : ∀ (l : List (List UInt8)), (∀ x ∈ l, x.length ≤ 200) → (recsL l).length ≤ 208 * l.length
  | [], _ => by simp [recsL]
  | x :: l, h => by
    have h1 := recL_le x (by have := h x (by simp); omega)
    have h2 := recsL_le l (fun y hy => h y (by simp [hy]))
    have h3 := h x (by simp)
    have e : (recsL (x :: l)).length = (recL x).length + (recsL l).length := by simp [recsL]
    rw [e, List.length_cons]; omega
/-- the state of the loop of TapeJoins -/
structure JAt (xs : List ByteArray) (w : World) (p k : Nat) (v : Value) (W : World) : Prop where
  dk : Dk W w.heap.size p v (pre xs k) false (-1)
  low : Below w.heap.size w W
  sm : ∀ x ∈ xs.take k, x.size ≤ 200
  le : k ≤ xs.length
theorem JAt.len {xs : List ByteArray} {w : World} {p k : Nat} {v : Value} {W : World} (h : JAt xs w p k v W) : (pre xs k).length ≤ 208 * k := by
  have h1 := recsL_le ((xs.take k).map (·.data.toList)) (by
    intro y hy
    rw [List.mem_map] at hy
    obtain ⟨x, hx, rfl⟩ := hy
    have := h.sm x hx
    simpa using this)
  have h2 : ((xs.take k).map (·.data.toList)).length = k := by
    have := h.le
    simp; omega
  rw [h2] at h1; exact h1
theorem ap_small {l s : List UInt8} (hs : s.length ≤ 200) (hl : l.length ≤ 20000) : apBad l s = 0 := by
  have := recL_le s (by omega)
  unfold apBad
  rw [if_neg (by omega), if_neg (by omega)]
theorem ap_plain {l s : List UInt8} (h : apBad l s = 0) : apC false (-1) l s = 0 ∧ apL false (-1) l s = l ++ recL s ∧ apO false (-1) l s = false ∧ apN false (-1) l s = -1 := by
  unfold apC apL apO apN wrC wrL wrO wrN
  rw [if_pos h, if_pos h, if_pos h, if_pos h]
  simp

theorem below_none {w w' : World} (hg : w.grownBy w' (Value.ownBlock (.slice none 0 0))) : Below w.heap.size w w' := ⟨hg.os, hg.tape, hg.output, hg.size, fun k hk => hg.block k hk (by simp [Value.ownBlock])⟩
theorem readT_count : ∀ (k : Nat) (l : List UInt8), (readT k l).1.length ≤ (readT k l).2
  | 0, _ => Nat.le_refl _
  | k + 1, l => by
    simp only [readT]
    split
    · have h := readT_count k (l.drop (recL (oneS l)).length)
      have h2 := recL_pos (oneS l)
      simp only [List.length_cons]; omega
    · exact Nat.le_refl _
set_option maxRecDepth 100000 in
set_option maxHeartbeats 1500000 in
theorem tapeJoins_any (xs : List ByteArray) (v : Value) (s : ByteArray) (e : Nat → Addr) (m : Int) (w : World) (h : TEnv w e m) (hr : Tx.Rd w v xs) (hxs : ∀ x ∈ xs, x.size ≤ 9223372036854775807) (hxl : xs.length ≤ 9223372036854775807) (hsz : s.size ≤ 9223372036854775807) :
    Calls Tryd.prog 3 #[v, .string s] w fun e' w' => e' = .returned (.bool true) ∧ Below w.heap.size w w' := by
  obtain ⟨a0, c0, rfl⟩ := hr.shape
  have ht := taped_any e m w h
  have HT := Lib.hid ht
  have HE := Lib.hid h
  have HR := Lib.hid hr
  have HXS := Lib.hid hxs
  clear ht h hr hxs
  go_enter Tryd.func3, Tryd.ntmps3
  go_wp2_with fail
  (with_reducible refine HT.out.mono ?_)
  rintro e1 w1 ⟨rfl, hb1⟩
  have HB1 := Lib.hid hb1
  clear hb1 HT
  by_cases hl : 20 < xs.length
  · have hl2 : (20 : Int) < (xs.length : Int) := by omega
    go_wp2
    go_ret
    exact ⟨rfl, HB1.out⟩
  by_cases hs5 : 500 < s.size
  · have hl2 : ¬ (20 : Int) < (xs.length : Int) := by omega
    have hl3 : (500 : Int) < (s.size : Int) := by omega
    go_wp2
    go_ret
    exact ⟨rfl, HB1.out⟩
  have hl2 : ¬ (20 : Int) < (xs.length : Int) := by omega
  have hl3 : ¬ (500 : Int) < (s.size : Int) := by omega
  have hn := newDisk_any ⟨#[]⟩ w1 (by decide)
  have HN := Lib.hid hn
  clear hn
  go_wp2_with fail
  (with_reducible refine HN.out.mono ?_)
  rintro e2 w2 ⟨p, v2, rfl, hd2, hb2⟩
  have e0 : (⟨#[]⟩ : ByteArray).data.toList = [] := rfl
  rw [e0] at hd2
  have hd2' := hd2.base_le HB1.out.size
  have hb2' := HB1.out.trans (hb2.mono HB1.out.size)
  have HD2 := Lib.hid hd2'
  have HB2 := Lib.hid hb2'
  clear hd2 hd2' hb2 hb2' HN HB1 e0
  go_wp2_with fail
  go_loopw [8] (fun i wr => ∃ (k : Nat) (v' : Value), i = .int .i64 k ∧ JAt xs w p k v' wr) (fun i _ => xs.length - (intOf i).toNat)
  case atStart => exact ⟨0, v2, rfl, HD2.out, HB2.out, by simp, Nat.zero_le _⟩
  case round =>
    obtain ⟨k, v', rfl, hj⟩ := hrel
    have hkl := hj.le
    by_cases hlt : k < xs.length
    · obtain ⟨b0, o0, c1, e1, hc⟩ := HR.out.at (by intro h; rw [h] at hlt; exact absurd hlt (Nat.not_lt_zero _))
      obtain ⟨rfl, rfl⟩ : a0 = some ⟨b0, o0, none⟩ ∧ c0 = c1 := by cases e1; exact ⟨rfl, rfl⟩
      obtain ⟨x, hxk⟩ : ∃ x, xs[k]? = some x := ⟨_, List.getElem?_eq_getElem hlt⟩
      have c1 := cell_later hj.low (hc k x hxk)
      have hi1 : (k : Int) < (xs.length : Int) := by omega
      have HJ := Lib.hid hj
      have HX := Lib.hid hxk
      clear e1 hc hj hxk
      by_cases h2 : 200 < x.size
      · have h3 : (200 : Int) < (x.size : Int) := by omega
        go_wp2
        go_ret
        exact ⟨rfl, HJ.out.low⟩
      · have h3 : ¬ (200 : Int) < (x.size : Int) := by omega
        have hpl := HJ.out.len
        have hxl2 : x.data.toList.length = x.size := by simp
        have hbad : apBad (pre xs k) x.data.toList = 0 := ap_small (by omega) (by omega)
        obtain ⟨q1, q2, q3, q4⟩ := ap_plain hbad
        have hap := append_any wr w.heap.size p v' (pre xs k) x.data.toList false (-1) e HJ.out.dk (HE.out.below HJ.out.low).et (by omega) (by omega) (by decide) (cell_lt HE.out.et.s10.cell) (HE.out.below HJ.out.low).tab
        rw [q1, q2, q3, q4, ← mk_self x] at hap
        have HAP := Lib.hid hap
        clear hap q1 q2 q3 q4 hbad hxl2
        go_wp2_with fail
        (with_reducible refine HAP.out.mono ?_)
        rintro e3 w3 ⟨v3, rfl, hd3, hf3, _⟩
        have hb3 : Below w.heap.size w w3 := HJ.out.low.trans (hf3.below (fun k hk => HJ.out.dk.far_ge hk) HJ.out.low.size)
        have HD3 := Lib.hid hd3
        have HB3 := Lib.hid hb3
        simp only [errV]
        clear hd3 hf3 hb3 HAP
        go_wp2
        go_roundw
        case rel =>
          refine ⟨k + 1, v3, by go_num, ?_, HB3.out, ?_, by omega⟩
          · rw [pre_succ HX.out]; exact HD3.out
          · intro y hy
            rw [take_succ HX.out, List.mem_append] at hy
            rcases hy with hy | hy
            · exact HJ.out.sm y hy
            · rw [List.mem_singleton] at hy; subst hy; omega
        case measure => simp [intOf]; omega
    · obtain rfl : k = xs.length := by omega
      have HJ := Lib.hid hj
      clear hj
      obtain ⟨L, hL⟩ : ∃ L, pre xs xs.length = L := ⟨_, rfl⟩
      have hLr : L = recsL (xs.map (·.data.toList)) := by rw [← hL, pre, List.take_length]
      have hall : ∀ y ∈ xs.map (·.data.toList), y.length ≤ 10000 := by
        intro y hy
        rw [List.mem_map] at hy
        obtain ⟨x, hx, rfl⟩ := hy
        have h1 := HJ.out.sm x (by rw [List.take_length]; exact hx)
        have h2 : x.data.toList.length = x.size := by simp
        show x.data.toList.length ≤ 10000
        omega
      have hmap : (xs.map (·.data.toList)).map mk = xs := by
        rw [List.map_map]
        exact (List.map_congr_left fun x _ => (mk_self x).symm).trans (List.map_id xs)
      obtain ⟨X, hX⟩ : ∃ X, xs.map (·.data.toList) = X := ⟨_, rfl⟩
      rw [hX] at hLr hall hmap
      have hXl : X.length = xs.length := by rw [← hX]; simp
      have hll := HJ.out.len
      rw [hL] at hll
      obtain ⟨S, hS⟩ : ∃ S, s.data.toList = S := ⟨_, rfl⟩
      have hSl : S.length = s.size := by rw [← hS]; simp
      obtain ⟨Y, hY⟩ : ∃ Y, (readF S).1 = Y := ⟨_, rfl⟩
      obtain ⟨m2, hm2⟩ : ∃ m2, (readF S).2 = m2 := ⟨_, rfl⟩
      have hr1 : readF L = (X, L.length) := by
        have h := readF_recs X [] hall
        rw [List.append_nil, readF_nil, ← hLr] at h
        simpa using h
      have hr3 : readF (L ++ S) = (X ++ Y, L.length + m2) := by
        rw [hLr, readF_recs X S hall, hY, hm2]
      have hm2l : m2 ≤ S.length := by rw [← hm2]; exact readF_le S
      have hYl : Y.length ≤ m2 := by rw [← hY, ← hm2]; exact readT_count _ _
      have hdk := HJ.out.dk
      rw [hL] at hdk
      have hby := bytes_any wr w.heap.size p v' L false (-1) hdk
      have hrd1 := read_any (mk L) m wr (by simp [ByteArray.size]; omega) (HE.out.below HJ.out.low).lib (HE.out.below HJ.out.low).tab (HE.out.below HJ.out.low).ml
      have e1 : (mk L).data.toList = L := rfl
      rw [e1] at hrd1
      unfold ReadPost at hrd1
      rw [hr1] at hrd1
      dsimp only at hrd1
      rw [hmap, hXl] at hrd1
      have HBY := Lib.hid hby
      have HRD1 := Lib.hid hrd1
      have HDK := Lib.hid hdk
      have HLOW := Lib.hid HJ.out.low
      have HMAP := Lib.hid hmap
      have HR3 := Lib.hid hr3
      have HY := Lib.hid hY
      have HM2 := Lib.hid hm2
      have HXL := Lib.hid hXl
      have HS := Lib.hid hS
      have hLS : L.length ≤ 4200 := by omega
      have hSS : S.length ≤ 500 := by omega
      have hm5 : m2 ≤ 500 := by omega
      have hY5 : Y.length ≤ 500 := by omega
      have hszL : (mk L).size = L.length := by simp [ByteArray.size]
      clear hL hLr hall hmap hX hXl hll hS hSl hY hm2 hr1 hr3 hm2l hYl hdk hby hrd1 e1
      go_wp2_with fail
      (with_reducible refine HBY.out.mono ?_)
      rintro e4 w4 ⟨rfl, rfl⟩
      go_wp2_with fail
      (with_reducible refine HRD1.out.mono ?_)
      rintro e5 w5 ⟨x1, rfl, hx1, hb5⟩
      obtain ⟨xa, xc, rfl⟩ := ownsRow_slice hx1
      have hlow5 := HLOW.out.trans (hb5.mono HLOW.out.size)
      have hrd2 := read_any s m w5 (by omega) (HE.out.below hlow5).lib (HE.out.below hlow5).tab (HE.out.below hlow5).ml
      unfold ReadPost at hrd2
      rw [HS.out, HY.out, HM2.out] at hrd2
      have HRD2 := Lib.hid hrd2
      have HX1 := Lib.hid hx1
      have HLOW5 := Lib.hid hlow5
      have HDK5 := Lib.hid (HDK.out.below hb5)
      have hs5 := hb5.size
      clear hx1 hb5 hlow5 hrd2 HRD1 HBY
      go_wp2_with fail
      (with_reducible refine HRD2.out.mono ?_)
      rintro e6 w6 ⟨y1, rfl, hy1, hb6⟩
      obtain ⟨ya, yc, rfl⟩ := ownsRow_slice hy1
      have hlow6 := HLOW5.out.trans (hb6.mono HLOW5.out.size)
      have hdk6 := HDK5.out.below hb6
      have hby6 := bytes_any w6 w.heap.size p v' L false (-1) hdk6
      have hcat : mk L ++ s = mk (L ++ S) := by rw [mk_self s, HS.out, mk_cat]
      have hrd3 := read_any (mk (L ++ S)) m w6 (by simp [ByteArray.size]; omega) (HE.out.below hlow6).lib (HE.out.below hlow6).tab (HE.out.below hlow6).ml
      have e1 : (mk (L ++ S)).data.toList = L ++ S := rfl
      rw [e1] at hrd3
      unfold ReadPost at hrd3
      rw [HR3.out] at hrd3
      dsimp only at hrd3
      obtain ⟨Z, hZ⟩ : ∃ Z, xs ++ Y.map mk = Z := ⟨_, rfl⟩
      have hz1 : (X ++ Y).map mk = Z := by rw [List.map_append, HMAP.out, hZ]
      have hz2 : (X ++ Y).length = Z.length := by rw [← hz1, List.length_map]
      rw [hz1, hz2, Int.natCast_add] at hrd3
      have hZl : Z.length = xs.length + Y.length := by rw [← hZ]; simp
      have HZ := Lib.hid hZ
      have HRD3 := Lib.hid hrd3
      clear hz1 hz2 hZ
      have HX6 := Lib.hid (own_later HX1.out hb6)
      have HY6 := Lib.hid hy1
      have HLOW6 := Lib.hid hlow6
      have HDK6 := Lib.hid hdk6
      have HBY6 := Lib.hid hby6
      have HCAT := Lib.hid hcat
      have hs6 := hb6.size
      clear hy1 hb6 hlow6 hdk6 hby6 hrd3 e1 hcat HRD2 HX1 HLOW5 HDK5
      go_wp2_with fail
      (with_reducible refine HBY6.out.mono ?_)
      rintro e7 w7 ⟨rfl, rfl⟩
      go_wp2_with fail
      rw [HCAT.out]
      (with_reducible refine HRD3.out.mono ?_)
      rintro e8 w8 ⟨z1, rfl, hz1, hb8⟩
      obtain ⟨za, zc, rfl⟩ := ownsRow_slice hz1
      have hlow8 := HLOW6.out.trans (hb8.mono HLOW6.out.size)
      have HX8 := Lib.hid (own_later HX6.out hb8)
      have HY8 := Lib.hid (own_later HY6.out hb8)
      have HZ8 := Lib.hid hz1
      have HDK8 := Lib.hid (HDK6.out.below hb8)
      have HLOW8 := Lib.hid hlow8
      clear hz1 hb8 hlow8 HRD3 HX6 HY6 HDK6 HCAT HLOW6 HBY6
      obtain ⟨i0, hi0, hz0, hz1, hz2⟩ := info_parts string_info
      have hxy : xs.length + (Y.map mk).length ≤ 3000000 := by rw [List.length_map]; omega
      have HYL := Lib.hid (show (Y.map mk).length = Y.length from List.length_map _)
      go_wp2_with (first
        | (at_builtin
           refine Tx.wpList_append_tx rfl (.tmp 78) (.tmp 79) rfl w8.heap.size i0 hi0 hz0 hz1 hz2 (.slice none 0 0) [] rfl ⟨by simp [cellsS], .inl ⟨rfl, rfl⟩⟩ (.slice xa xs.length xc) xs _ rfl HX8.out (by simp; omega) (Nat.le_refl _) ?_
           intro v9 w9 h9 hg9
           rw [List.nil_append] at h9
           obtain ⟨a9, c9, rfl⟩ := ownsRow_slice h9
           have H9 := Lib.hid h9
           have HG9 := Lib.hid (below_none hg9)
           clear h9 hg9)
        | (at_builtin
           refine Tx.wpList_append_tx rfl (.tmp 81) (.tmp 82) rfl w8.heap.size i0 hi0 hz0 hz1 hz2 (.slice a9 xs.length c9) xs rfl H9.out (.slice ya Y.length yc) (Y.map mk) _ rfl (by rw [HYL.out]; exact own_later HY8.out HG9.out) hxy HG9.out.size ?_
           intro v10 w10 h10 hg10
           rw [HZ.out] at h10
           obtain ⟨a10, c10, rfl⟩ := ownsRow_slice h10
           have H10 := Lib.hid h10
           have HG10 := Lib.hid (HG9.out.grown hg10 HG9.out.size (fun j ej => own_ge H9.out ej))
           clear h10 hg10))
      have hlow10 : Below w.heap.size w w10 := HLOW8.out.trans (HG10.out.mono HLOW8.out.size)
      have hra : Tx.Rd w10 (.slice xa xs.length xc) xs := (Tx.rd_own (xs := xs) HX8.out rfl).below HG10.out
      have hrl : Tx.Rd w10 (.slice a0 xs.length c0) xs := HR.out.below hlow10
      have hrz : Tx.Rd w10 (.slice za Z.length zc) Z := (Tx.rd_own (xs := Z) HZ8.out rfl).below HG10.out
      have hrb : Tx.Rd w10 (.slice a10 Z.length c10) Z := Tx.rd_own (xs := Z) H10.out rfl
      have hst1 := Tx.sameTexts_any _ _ _ _ _ hra hrl (by omega) (by omega)
      rw [decide_eq_true rfl] at hst1
      have hst2 := fun q => Tx.sameTexts_any _ _ _ _ _ (hrz.below (below_draw (Below.refl _ _) q)) (hrb.below (below_draw (Below.refl _ _) q)) (by omega) (by omega)
      rw [hZl] at hst2
      rw [decide_eq_true rfl] at hst2
      have hby := fun q => bytes_any (w10.drewN q) w.heap.size p v' L false (-1) ((HDK8.out.below HG10.out).below (below_draw (Below.refl _ _) q))
      have HST1 := Lib.hid hst1
      have HST2 := Lib.hid hst2
      have HBY := Lib.hid hby
      have HF := Lib.hid (fun q => hlow10.trans (below_draw (Below.refl w.heap.size w10) q))
      clear hlow10 hra hrl hrz hrb hst1 hst2 hby HX8 HZ8 H9 H10 HG9 HG10 HY8 HDK8
      (with_reducible refine HST1.out.mono ?_)
      rintro e11 w11 ⟨rfl, q, rfl⟩
      have HBQ := Lib.hid (HBY.out q)
      go_wp2_with fail
      (with_reducible refine HBQ.out.mono ?_)
      rintro e12 w12 ⟨rfl, rfl⟩
      have HSQ := Lib.hid (HST2.out q)
      go_wp2_with fail
      (with_reducible refine HSQ.out.mono ?_)
      rintro e13 w13 ⟨rfl, q2, rfl⟩
      have HFQ := Lib.hid (HF.out (q + q2))
      go_wp2
      go_ret
      exact ⟨rfl, HFQ.out⟩
end Tp
end Go.Proofs.YtmlndamkcipebaaDoor
