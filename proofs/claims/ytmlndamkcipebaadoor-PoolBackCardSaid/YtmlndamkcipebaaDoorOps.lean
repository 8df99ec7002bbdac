/- pack.ops: the operations of a delta. -/
import Derived.Test.YtmlndamkcipebaaDoorFirst
import Derived.Maps.AppendAt
namespace Go.Proofs.YtmlndamkcipebaaDoor
open Go Go.RowKit Lmd
namespace Pk
open Rul Day Tp Cand

def cellsOp (l : List Op) : List Value := l.flatMap fun o => [.int .i64 o.at_, .int .i64 o.n, .string (mk o.text)]
theorem cellsOp_snoc (l : List Op) (o : Op) : cellsOp (l ++ [o]) = cellsOp l ++ [.int .i64 o.at_, .int .i64 o.n, .string (mk o.text)] := by simp [cellsOp]
theorem cellsOp_len (l : List Op) : (cellsOp l).length = l.length * 3 := by
  induction l with
  | nil => rfl
  | cons o l ih => simp only [cellsOp, List.flatMap_cons, List.length_append, List.length_cons, List.length_nil] at ih ⊢; omega
theorem toListMk (l : List UInt8) : (mk l).toList = l := by rw [ByteArray.toList_eq]
/-- what lies behind pack.ops -/
def OpsPost (d : List UInt8) (w : World) (e : Ending) (w' : World) : Prop :=
  ∃ v, e = .returned (.tuple #[v, .bool (opsF d).isSome]) ∧ (∀ l, opsF d = some l → w'.ownsRow w.heap.size 100 3 v l.length (cellsOp l)) ∧ Below w.heap.size w w'
theorem op_info : (Tryd.prog.info? 100).map (fun i => (i.zero, i.size, i.bytes)) = some (some (.agg #[.int .i64 0, .int .i64 0, .string ⟨#[]⟩]), 3, 32) := by kernel_rfl
/-- the state of the loop of pack.ops -/
structure OpAt (d : List UInt8) (w : World) (D : List Op) (r : List UInt8) (v : Value) (W : World) : Prop where
  rel : opsF d = (opsF r).map (D ++ ·)
  own : W.ownsRow w.heap.size 100 3 v D.length (cellsOp D)
  below : Below w.heap.size w W
  len : D.length + r.length ≤ d.length
theorem ownsRow_slice3 {w : World} {base : Nat} {e : TypeId} {v : Value} {n : Nat} {xs : List Value} (h : w.ownsRow base e 3 v n xs) : ∃ a c, v = .slice a n c := by
  rcases h.2 with ⟨rfl, rfl⟩ | ⟨g, cap, cur, rfl, _⟩
  · exact ⟨_, _, rfl⟩
  · exact ⟨_, _, rfl⟩
theorem own_later3 {w w' : World} {base : Nat} {e : TypeId} {v : Value} {n : Nat} {xs : List Value} (h : w.ownsRow base e 3 v n xs) (hb : Below w.heap.size w w') : w'.ownsRow base e 3 v n xs := by
  refine h.kept (row := none) ⟨hb.os, hb.tape, hb.output, hb.size, fun k hk _ => hb.block k hk⟩ ?_
  cases hv : v.ownBlock with
  | none => exact .inl rfl
  | some k => exact .inr (by simp)
theorem own_ge3 {w : World} {base : Nat} {e : TypeId} {v : Value} {n : Nat} {xs : List Value} (h : w.ownsRow base e 3 v n xs) {j : Nat} (ej : v.ownBlock = some j) : base ≤ j := by
  rcases h.2 with ⟨rfl, _⟩ | ⟨g, cap, cur, rfl, h2, _⟩
  · simp [Value.ownBlock] at ej
  · obtain rfl : g = j := by simpa [Value.ownBlock] using ej
    exact h2
set_option maxRecDepth 100000 in
set_option maxHeartbeats 1000000 in
theorem ops_any (d : List UInt8) (m : Int) (w : World) (hs : d.length ≤ 1000000) (hE : ELib w) (htab : Lib.TabIs Tryd.prog w "internal/strconv.uint64pow10" .u64 Lib.pow10Tab) (hm : w.cell? ⟨13, 0, none⟩ = some (.int .i64 m)) :
    Calls Tryd.prog 54 #[.string (mk d)] w (OpsPost d w) := by
  obtain ⟨i0, hi0, hz0, hz1, hz2⟩ := info_parts op_info
  have HE := Lib.hid hE
  have HT := Lib.hid htab
  have HM := Lib.hid hm
  clear hE htab hm
  go_enter Tryd.func54, Tryd.ntmps54
  go_wp2_with fail
  go_loopw [0, 4] (fun dv v4 wr => ∃ D r, dv = .string (mk r) ∧ (∃ a c, v4 = .slice a D.length c) ∧ OpAt d w D r v4 wr) (fun dv _ _ => (match dv with | .string s => s.size | _ => 0))
  case atStart => exact ⟨[], d, rfl, ⟨none, 0, rfl⟩, by cases opsF d <;> simp, ⟨by simp [cellsOp], .inl ⟨rfl, rfl⟩⟩, Below.refl _ _, by simp⟩
  case round =>
    obtain ⟨D, r, rfl, ⟨a4, c4, rfl⟩, hat⟩ := hrel
    cases r with
    | nil =>
      have hok : opsF d = some D := by rw [hat.rel, opsF_nil]; simp
      have HOK := Lib.hid hok
      have HAT := Lib.hid hat
      have he : (mk []).toList = [] := toListMk _
      clear hok hat
      go_wp2
      go_ret2
      refine ⟨_, by rw [HOK.out]; rfl, ?_, HAT.out.below⟩
      intro l hl
      rw [HOK.out] at hl
      cases hl
      exact HAT.out.own
    | cons x r =>
      have hlen := hat.len
      rw [List.length_cons] at hlen
      have hf := first_any x r m wr (by omega) (HE.out.below hat.below) (Frame.tab_below (g := 12) (by kernel_rfl) hat.below HT.out) (cell_later hat.below HM.out)
      have he : (mk (x :: r)).toList = x :: r := toListMk _
      have hsz : (mk (x :: r)).size = r.length + 1 := by simp [ByteArray.size]
      obtain ⟨S, hS⟩ : ∃ S, mk (x :: r) = S := ⟨_, rfl⟩
      rw [hS] at hf he hsz ⊢
      have HF := Lib.hid hf
      have HAT := Lib.hid hat
      have HSZ := Lib.hid hsz
      have hsb := hat.below.size
      clear hf hat hS hsz
      go_wp2_with fail
      refine HF.out.mono ?_
      rintro e1 w1 ⟨x0, x1, x2, r1, rfl, hok, hb1⟩
      obtain ⟨q, hq⟩ : ∃ q, (fst1 (x :: r)).1 = q := ⟨_, rfl⟩
      rw [hq] at hok ⊢
      have HQ := Lib.hid hq
      have HOK := Lib.hid hok
      have HB1 := Lib.hid hb1
      have hx2 := heap_new w1 (.cells #[.int .i64 x0, .int .i64 x1, .string x2] 100)
      have hb2 : Below w1.heap.size w1 (w1.alloc (.cells #[.int .i64 x0, .int .i64 x1, .string x2] 100)) := (Below.refl _ w1).alloc (Nat.le_refl _) _
      obtain ⟨k0, k1, k2, _⟩ := cells3 hx2
      have HX2 := Lib.hid hx2
      have HB2 := Lib.hid hb2
      clear hq hok hb1 hx2 hb2 HF
      cases q with
      | false =>
        have hno : opsF d = none := by rw [HAT.out.rel, opsF_bad (by simp) HQ.out]; rfl
        have HNO := Lib.hid hno
        clear hno
        go_wp2
        go_ret2
        refine ⟨_, by rw [HNO.out]; rfl, ?_, HAT.out.below.trans ((HB1.out.trans (HB2.out.mono HB1.out.size)).mono hsb)⟩
        intro l hl
        rw [HNO.out] at hl
        cases hl
      | true =>
        obtain ⟨rfl, rfl, rfl, rfl⟩ := HOK.out rfl
        obtain ⟨o, ho⟩ : ∃ o, (fst1 (x :: r)).2.1 = o := ⟨_, rfl⟩
        obtain ⟨r1, hr1⟩ : ∃ r1, (fst1 (x :: r)).2.2 = r1 := ⟨_, rfl⟩
        rw [ho] at k0 k1 k2 HX2 HB2 ⊢
        rw [hr1]
        have HO := Lib.hid ho
        have HR1 := Lib.hid hr1
        have HOWN := Lib.hid (own_later3 (own_later3 HAT.out.own HB1.out) HB2.out)
        have hs1 := HB1.out.size
        clear ho hr1 HOK
        have hnew : ((w1.alloc (.cells #[.int .i64 o.at_, .int .i64 o.n, .string (mk o.text)] 100)).alloc (.cells #[.int .i64 o.at_, .int .i64 o.n, .string (mk o.text)] 100)).heap[w1.heap.size + 1]? = some (.cells #[.int .i64 o.at_, .int .i64 o.n, .string (mk o.text)] 100) := by
          have h := heap_new (w1.alloc (.cells #[.int .i64 o.at_, .int .i64 o.n, .string (mk o.text)] 100)) (.cells #[.int .i64 o.at_, .int .i64 o.n, .string (mk o.text)] 100)
          rwa [World.size_alloc] at h
        have HNEW := Lib.hid hnew
        have hbn : Below w.heap.size w1 ((w1.alloc (.cells #[.int .i64 o.at_, .int .i64 o.n, .string (mk o.text)] 100)).alloc (.cells #[.int .i64 o.at_, .int .i64 o.n, .string (mk o.text)] 100)) := ((Below.refl _ w1).alloc (by omega) _).alloc (by simp; omega) _
        have HBN := Lib.hid hbn
        have HR := Lib.hid (show r1.length < (x :: r).length by rw [← HR1.out]; exact fst_len HQ.out)
        have hdl : D.length < 1000001 := by omega
        clear hnew hbn
        go_wp2_with (first
          | (at_builtin
             refine wpList_append_own _ rfl (.tmp 18) (.tmp 20) _ rfl w.heap.size 100 i0 _ 3 32 Tryd.underlying93 hi0 hz0 hz1 hz2 rfl (by omega) (.slice a4 D.length c4) D.length (cellsOp D) rfl
               (HOWN.out.alloc _) ⟨w1.heap.size + 1, 0, none⟩ 1 1 [.int .i64 o.at_, .int .i64 o.n, .string (mk o.text)] rfl rfl
               (fun j u hu => by
                 have hc := cells3 HNEW.out
                 rw [Addr.add_lit]
                 match j, hu with
                 | 0, hu => cases hu; exact hc.1
                 | 1, hu => cases hu; exact hc.2.1
                 | 2, hu => cases hu; exact hc.2.2.1
                 | j + 3, hu => cases hu) (fun u hu => by simp at hu; rcases hu with rfl | rfl | rfl <;> rfl) (by simp only [maxLen]; omega) (by omega) (by simp; omega) ?_
             intro v1 wb hown' hg hnil
             have hbb : Below w.heap.size w1 wb := HBN.out.grown hg (by simp; omega) (fun j ej => own_ge3 HOWN.out ej)
             obtain ⟨a1, c2, e1⟩ : ∃ a1 c2, v1 = .slice a1 (D.length + 1) c2 := ownsRow_slice3 hown'
             subst e1
             have HOB := Lib.hid hown'
             have HBB := Lib.hid hbb
             clear hown' hg hnil hbb))
        go_roundw
        case rel =>
          refine ⟨D ++ [o], r1, rfl, ⟨a1, c2, by simp⟩, ?_, ?_, (HAT.out.below.trans (HB1.out.mono hsb)).trans HBB.out, ?_⟩
          · rw [HAT.out.rel, opsF_one (by simp) HQ.out, HO.out, HR1.out]
            cases opsF r1 <;> simp
          · rw [cellsOp_snoc, List.length_append]; exact HOB.out
          · have h1 := HAT.out.len
            have h2 := HR.out
            rw [List.length_append, List.length_cons, List.length_nil]
            rw [List.length_cons] at h1 h2
            omega
        case measure =>
          have h1 := HR.out
          have h2 := HSZ.out
          rw [List.length_cons] at h1
          show (mk r1).size < S.size
          have h3 : (mk r1).size = r1.length := by simp [ByteArray.size]
          omega
end Pk
end Go.Proofs.YtmlndamkcipebaaDoor
