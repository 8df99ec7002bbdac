/- tape.Read: the records of a text. -/
import Derived.Test.YtmlndamkcipebaaDoorTapeOne
import Derived.Maps.AppendAt
namespace Go.Proofs.YtmlndamkcipebaaDoor
open Go Go.RowKit Lmd
namespace Tp
open Rul Day

theorem own_later {w w' : World} {base : Nat} {e : TypeId} {v : Value} {n : Nat} {xs : List Value} (h : w.ownsRow base e 1 v n xs) (hb : Below w.heap.size w w') : w'.ownsRow base e 1 v n xs := by
  refine h.kept (row := none) ⟨hb.os, hb.tape, hb.output, hb.size, fun k hk _ => hb.block k hk⟩ ?_
  cases hv : v.ownBlock with
  | none => exact .inl rfl
  | some k => exact .inr (by simp)
/-- what lies behind tape.Read -/
def ReadPost (l : List UInt8) (w : World) (e : Ending) (w' : World) : Prop :=
  ∃ v, e = .returned (.tuple #[v, .int .i64 ((readF l).2 : Int)]) ∧ w'.ownsRow w.heap.size 9 1 v (readF l).1.length (cellsS ((readF l).1.map mk)) ∧ Below w.heap.size w w'
theorem ownsRow_slice {w : World} {base : Nat} {e : TypeId} {v : Value} {n : Nat} {xs : List Value} (h : w.ownsRow base e 1 v n xs) : ∃ a c, v = .slice a n c := by
  rcases h.2 with ⟨rfl, rfl⟩ | ⟨g, cap, cur, rfl, _⟩
  · exact ⟨_, _, rfl⟩
  · exact ⟨_, _, rfl⟩
/-- the state of the loop of tape.Read -/
structure RdAt (s : ByteArray) (w : World) (D : List (List UInt8)) (r : List UInt8) (v : Value) (W : World) : Prop where
  cut : s.data.toList = recsL D ++ r
  le : ∀ x ∈ D, x.length ≤ 10000
  own : W.ownsRow w.heap.size 9 1 v D.length (cellsS (D.map mk))
  below : Below w.heap.size w W
theorem RdAt.rest {s : ByteArray} {w : World} {D : List (List UInt8)} {r : List UInt8} {v : Value} {W : World} (h : RdAt s w D r v W) : s.extract (recsL D).length s.size = Rul.mk r ∧ (recsL D).length + r.length = s.size ∧ 4 * D.length ≤ (recsL D).length := by
  have hz : (recsL D).length + r.length = s.size := by
    have h1 : s.data.toList.length = s.size := by simp
    rw [← h1, h.cut, List.length_append]
  refine ⟨mk_of ?_, hz, ?_⟩
  · rw [ext_mid, h.cut, ← hz]
    have : (recsL D).length + r.length - (recsL D).length = r.length := by omega
    rw [this]; simp
  · clear h hz
    induction D with
    | nil => simp
    | cons x D ih =>
      have h4 := recL_pos x
      have e : (recsL (x :: D)).length = (recL x).length + (recsL D).length := by simp [recsL]
      rw [e, List.length_cons]; omega
theorem RdAt.done {s : ByteArray} {w : World} {D : List (List UInt8)} {r : List UInt8} {v : Value} {W : World} (h : RdAt s w D r v W) (ho : oneB r = false) : readF s.data.toList = (D, (recsL D).length) := by
  rw [h.cut, readF_recs D r h.le, readF_no ho]; simp

set_option maxRecDepth 100000 in
set_option maxHeartbeats 800000 in
theorem read_any (s : ByteArray) (m : Int) (w : World) (hs : s.size ≤ 1100000) (hE : ELib w) (htab : Lib.TabIs Tryd.prog w "internal/strconv.uint64pow10" .u64 Lib.pow10Tab) (hm : w.cell? ⟨13, 0, none⟩ = some (.int .i64 m)) :
    Calls Tryd.prog 14 #[.string s] w (ReadPost s.data.toList w) := by
  obtain ⟨i0, hi0, hz0, hz1, hz2⟩ := info_parts string_info
  have HE := Lib.hid hE
  have HT := Lib.hid htab
  have HM := Lib.hid hm
  clear hE htab hm
  go_enter Tryd.func14, Tryd.ntmps14
  go_wp2_with fail
  go_loopw [4, 5] (fun v4 p wr => ∃ D r, p = .int .i64 ((recsL D).length : Int) ∧ (∃ a c, v4 = .slice a D.length c) ∧ RdAt s w D r v4 wr) (fun _ p _ => s.size - (intOf p).toNat)
  case atStart => exact ⟨[], s.data.toList, rfl, ⟨none, 0, rfl⟩, ⟨rfl, by simp, ⟨by simp [cellsS], .inl ⟨rfl, rfl⟩⟩, Below.refl _ _⟩⟩
  case round =>
    obtain ⟨D, r, rfl, ⟨a4, c4, rfl⟩, hat⟩ := hrel
    obtain ⟨hx, hz, h4⟩ := hat.rest
    have hone := one_any (mk r) m wr (by simp [ByteArray.size]; omega) (HE.out.below hat.below) (Frame.tab_below (g := 12) (by kernel_rfl) hat.below HT.out) (cell_later hat.below HM.out)
    have e1 : (mk r).data.toList = r := rfl
    rw [e1] at hone
    obtain ⟨n, hn⟩ : ∃ n, (recsL D).length = n := ⟨_, rfl⟩
    rw [hn] at hx hz h4 ⊢
    have hns : n ≤ s.size := by omega
    have hsb := hat.below.size
    obtain ⟨X, hX⟩ : ∃ X, mk r = X := ⟨_, rfl⟩
    rw [hX] at hone hx
    have HX := Lib.hid hx
    have HAT := Lib.hid hat
    have HN := Lib.hid hn
    cases ho : oneB r with
    | false =>
      rw [ho] at hone
      have HO := Lib.hid hone
      have hd := hat.done ho
      have HD := Lib.hid hd
      clear hone hz hX hat hn e1 ho hd
      go_wp2_with fail
      (with_reducible refine HO.out.mono ?_)
      rintro e1 w1 ⟨rfl, hb1⟩
      have HB1 := Lib.hid hb1
      clear hb1 HO
      go_wp2
      go_ret2
      refine ⟨_, by rw [HD.out, HN.out]; rfl, ?_, HAT.out.below.trans (HB1.out.mono hsb)⟩
      rw [HD.out]
      exact own_later HAT.out.own HB1.out
    | true =>
      obtain ⟨⟨r', hr'⟩, hl, _⟩ := one_some ho
      obtain ⟨x, hxx⟩ : ∃ x, oneS r = x := ⟨_, rfl⟩
      rw [hxx] at hr' hl
      have hv : oneV r = x := by unfold oneV; rw [if_pos ho, hxx]
      rw [ho, hv] at hone
      have HO := Lib.hid hone
      have hrec := fun W (h : Below w.heap.size w W) => record_any x W (by omega) (Frame.tab_below (g := 12) (by kernel_rfl) h HT.out)
      have HREC := Lib.hid hrec
      have hpos := recL_pos x
      have hrl : (recL x).length + r'.length = r.length := by rw [hr', List.length_append]
      have hrz : (mk (recL x)).size = (recL x).length := by simp [ByteArray.size]
      obtain ⟨q, hq⟩ : ∃ q, (recL x).length = q := ⟨_, rfl⟩
      rw [hq] at hpos hrl hrz
      have hn2 : (recsL (D ++ [x])).length = n + q := by rw [recsL_snoc, List.length_append, hn, hq]
      have hnq : n + q ≤ s.size := by omega
      have HN2 := Lib.hid hn2
      have HX2 := Lib.hid hl
      have HR2 := Lib.hid hr'
      obtain ⟨RX, hRX⟩ : ∃ RX, mk (recL x) = RX := ⟨_, rfl⟩
      rw [hRX] at HREC hrz
      have HRZ := Lib.hid hrz
      clear hone hX hat hn e1 ho hxx hl hr' hv hrec hq hn2 hrl hRX hrz
      go_wp2_with fail
      (with_reducible refine HO.out.mono ?_)
      rintro e1 w1 ⟨rfl, hb1⟩
      have HB1 := Lib.hid hb1
      have HOWN := Lib.hid (own_later HAT.out.own hb1)
      have hs1 := hb1.size
      clear hb1 HO
      go_wp2_with (first
          | (at_builtin
             refine wpList_append_own _ rfl (.tmp 19) (.tmp 21) _ rfl w.heap.size 9 i0 _ 1 16 Tryd.underlying22 hi0 hz0 hz1 hz2 rfl (by omega) (.slice a4 D.length c4) D.length (cellsS (D.map mk)) rfl
               (HOWN.out.alloc _) ⟨w1.heap.size, 0, none⟩ 1 1 [.string (mk x)] rfl rfl
               (fun j u hu => by
                 cases j with
                 | zero =>
                   simp at hu; subst hu
                   exact cell_of (heap_new w1 (.cells #[.string (mk x)] 9)) rfl
                 | succ j => simp at hu) (fun u hu => by simp at hu; subst hu; rfl) (by simp only [maxLen]; omega) (by omega) (by simp; omega) ?_
             intro v1 wb hown' hg hnil
             have hbb : Below w.heap.size w1 wb := ((Below.refl _ w1).alloc (by omega) _).grown hg (by simp; omega) (fun j ej => by
               rcases HOWN.out.2 with ⟨h1, _⟩ | ⟨g, cap, cur, h1, h2, _⟩
               · rw [h1] at ej; simp [Value.ownBlock] at ej
               · rw [h1] at ej; obtain rfl : g = j := by simpa [Value.ownBlock] using ej
                 exact h2)
             obtain ⟨a1, c2, e1⟩ : ∃ a1 c2, v1 = .slice a1 (D.length + 1) c2 := ownsRow_slice hown'
             subst e1
             have HOB := Lib.hid hown'
             have HBB := Lib.hid hbb
             clear hown' hg hnil hbb))
      have hbw1 := HAT.out.below.trans (HB1.out.mono hsb)
      have hbwb := hbw1.trans HBB.out
      have hrc := HREC.out wb hbwb
      have HRC := Lib.hid hrc
      have HBW := Lib.hid hbwb
      clear hrc hbw1 hbwb HREC
      (with_reducible refine HRC.out.mono ?_)
      rintro e2 w3 ⟨rfl, hb3⟩
      have HB3 := Lib.hid hb3
      have hrz := HRZ.out
      have hi1 : (n : Int) + (q : Int) ≤ 1100000 := by omega
      clear hb3 HRC
      go_wp2
      refine ⟨⟨D ++ [x], r', ?_, ?_, ?_⟩, ?_⟩
      · rw [HN2.out, Int.natCast_add]
      · exact ⟨a1, c2, by simp⟩
      · refine ⟨?_, ?_, ?_, HBW.out.trans (HB3.out.mono HBW.out.size)⟩
        · rw [HAT.out.cut, recsL_snoc, HR2.out, List.append_assoc]
        · intro y hy
          rcases List.mem_append.1 hy with h | h
          · exact HAT.out.le y h
          · rw [List.mem_singleton] at h; subst h; exact HX2.out
        · have h := own_later HOB.out HB3.out
          have e : cellsS ((D ++ [x]).map mk) = cellsS (D.map mk) ++ [.string (mk x)] := by simp [cellsS]
          rw [e, List.length_append]; exact h
      · show s.size - ((n : Int) + (q : Int)).toNat < s.size - ((n : Int)).toNat
        omega
end Tp
end Go.Proofs.YtmlndamkcipebaaDoor
