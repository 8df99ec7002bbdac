/- package pool: Read. -/
import Derived.Test.YtmlndamkcipebaaDoorPoolRead
import Derived.Test.YtmlndamkcipebaaDoorOps
namespace Go.Proofs.YtmlndamkcipebaaDoor
open Go Go.RowKit Lmd
namespace Pl
open Rul Day Cand Tp Pk

/-- what lies behind pool.Read -/
def ReadPost (e : Nat → Addr) (l : List UInt8) (w : World) (er : Ending) (w' : World) : Prop :=
  if 1048576 < l.length then er = .returned (.tuple #[.pointer none, errV e 2]) ∧ Below w.heap.size w w'
  else if (readF [] l).1 = 0 then ∃ p v m, er = .returned (.tuple #[.pointer (some ⟨p, 0, none⟩), .nilIface]) ∧ Is w' w.heap.size p v m (readF [] l).2 ∧ Below w.heap.size w w'
  else ∃ f, er = .returned (.tuple #[.pointer none, .iface 107 (.pointer (some ⟨f, 0, none⟩))]) ∧ w'.heap[f]? = some (.cells #[.int .i64 ((readF [] l).2.length : Nat), errV e (readF [] l).1] 109 (0, 0)) ∧ w.heap.size ≤ f ∧ Below w.heap.size w w'
/-- the state of the loop of Read -/
structure RdAt (l0 : List UInt8) (w : World) (p m : Nat) (v : Value) (xs : List (List UInt8)) (l : List UInt8) (W : World) : Prop where
  rel : readF [] l0 = readF xs l
  pl : Is W w.heap.size p v m xs
  low : Below w.heap.size w W
  len : l.length ≤ l0.length
theorem fresh_same {xs : List (List UInt8)} {t : List UInt8} (h : freshC xs t ≠ 0) : putL xs t = xs := by
  by_cases h1 : t ∈ xs
  · exact putL_mem h1
  · by_cases h2 : 10000 < t.length
    · unfold putL; rw [if_pos h2]
    · by_cases h3 : 1000 ≤ xs.length
      · unfold putL; rw [if_neg h2, if_neg h1, if_pos h3]
      · exfalso; apply h
        unfold freshC putC; rw [if_neg h1, if_neg h2, if_neg h1, if_neg h3]
set_option maxRecDepth 100000 in
set_option maxHeartbeats 1000000 in
theorem read_any (l : List UInt8) (e : Nat → Addr) (m0 : Int) (w : World) (hs : l.length ≤ 9223372036854775807) (he : EL w e) (hE : ELib w) (htab : Lib.TabIs Tryd.prog w "internal/strconv.uint64pow10" .u64 Lib.pow10Tab) (hm : w.cell? ⟨13, 0, none⟩ = some (.int .i64 m0)) :
    Calls Tryd.prog 27 #[.string (mk l)] w (ReadPost e l w) := by
  have HE := Lib.hid he
  have HEE := Lib.hid hE
  have HT := Lib.hid htab
  have HM := Lib.hid hm
  have hsz : (mk l).size = l.length := rfl
  by_cases hbig : 1048576 < l.length
  · have hb1 : (1048576 : Int) < (l.length : Int) := by omega
    have cE := he.s1.cell
    clear he hE htab hm
    go_enter Tryd.func27, Tryd.ntmps27
    go_wp2_with fail
    go_quiet (fail)
    go_wp2
    go_ret2
    unfold ReadPost
    rw [if_pos hbig]
    exact ⟨rfl, below_draw (Below.refl _ w) _⟩
  · have hb1 : ¬ (1048576 : Int) < (l.length : Int) := by omega
    have hn := new_any w
    have HN := Lib.hid hn
    clear he hE htab hm hn
    go_enter Tryd.func27, Tryd.ntmps27
    go_wp2_with fail
    (with_reducible refine HN.out.mono ?_)
    rintro e1 w1 ⟨p, v, m, rfl, his, hb⟩
    have HIS := Lib.hid his
    have HB := Lib.hid hb
    clear his hb HN
    go_wp2_with fail
    go_loopw [0] (fun sv wr => ∃ r xs v', sv = .string (mk r) ∧ RdAt l w p m v' xs r wr) (fun sv _ => (match sv with | .string s => s.size | _ => 0))
    case atStart => exact ⟨l, [], v, rfl, rfl, HIS.out, HB.out, Nat.le_refl _⟩
    case round =>
      obtain ⟨r, xs, v', rfl, hat⟩ := hrel
      cases r with
      | nil =>
        have HAT := Lib.hid hat
        have he : (mk []).toList = [] := toListMk _
        clear hat
        go_wp2
        go_ret2
        unfold ReadPost
        rw [if_neg hbig, HAT.out.rel, readF_nil, if_pos rfl]
        exact ⟨p, v', m, rfl, HAT.out.pl, HAT.out.low⟩
      | cons x r =>
        have hlen := hat.len
        rw [List.length_cons] at hlen
        have hsb := hat.low.size
        have ht := take_any (x :: r) e m0 wr (by rw [List.length_cons]; omega) (HE.out.below hat.low) (HEE.out.below hat.low) (Frame.tab_below (g := 12) (by kernel_rfl) hat.low HT.out) (cell_later hat.low HM.out)
        have he : (mk (x :: r)).toList = x :: r := toListMk _
        obtain ⟨S, hS⟩ : ∃ S, mk (x :: r) = S := ⟨_, rfl⟩
        have hSz : S.size = r.length + 1 := by rw [← hS]; simp [ByteArray.size]
        rw [hS] at ht he ⊢
        have HTK := Lib.hid ht
        have HAT := Lib.hid hat
        have HSZ := Lib.hid hSz
        clear ht hat hS hSz
        go_wp2_with fail
        (with_reducible refine HTK.out.mono ?_)
        rintro e2 w2 ⟨rfl, hb2⟩
        have hlow2 := HAT.out.low.trans (hb2.mono hsb)
        have hpl2 := HAT.out.pl.below hb2
        have HLOW2 := Lib.hid hlow2
        have HPL2 := Lib.hid hpl2
        clear hb2 hlow2 hpl2 HTK
        cases hc : (takeX (x :: r)).1 with
        | succ c =>
          have hbad := readF_bad1 (xs := xs) (l := x :: r) (by simp) (by rw [hc]; simp)
          rw [hc] at hbad
          have hln := len_any w2 _ p m v' xs HPL2.out
          have HLN := Lib.hid hln
          have HBAD := Lib.hid hbad
          clear hc hbad hln
          simp only [errV]
          go_wp2_with fail
          (with_reducible refine HLN.out.mono ?_)
          rintro e3 w3 ⟨rfl, rfl⟩
          go_wp2_with fail
          go_ret2
          unfold ReadPost
          rw [if_neg hbig, HAT.out.rel, HBAD.out, if_neg (by simp)]
          exact ⟨_, rfl, heap_new _ _, HLOW2.out.size, HLOW2.out.alloc HLOW2.out.size _⟩
        | zero =>
          have htl := takeX_len hc
          obtain ⟨t, ht⟩ : ∃ t, (takeX (x :: r)).2.1 = t := ⟨_, rfl⟩
          obtain ⟨r2, hr2⟩ : ∃ r2, (takeX (x :: r)).2.2 = r2 := ⟨_, rfl⟩
          have hst := readF_step (xs := xs) (l := x :: r) (by simp) hc
          have hbd := readF_bad2 (xs := xs) (l := x :: r) (by simp) hc
          rw [ht, hr2] at hst htl
          rw [ht] at hbd
          rw [ht, hr2]
          have hfr := fresh_any w2 w.heap.size p m v' xs t e HPL2.out (HE.out.below HLOW2.out) (by omega)
          have HFR := Lib.hid hfr
          have HST := Lib.hid hst
          have HBD := Lib.hid hbd
          have HTL := Lib.hid htl
          clear hc ht hr2 hst hbd htl hfr
          simp only [errV]
          go_wp2_with fail
          (with_reducible refine HFR.out.mono ?_)
          rintro e3 w3 ⟨v3, rfl, hpl3, hfar3, _⟩
          have hge2 := HPL2.out
          have hlow3 : Below w.heap.size w w3 := HLOW2.out.trans (hfar3.below (fun k hk => by
            rcases hk with rfl | rfl | hk
            · exact hge2.ge.1
            · exact hge2.ge.2
            · exact own_ge hge2.own hk.symm) HLOW2.out.size)
          have HPL3 := Lib.hid hpl3
          have HLOW3 := Lib.hid hlow3
          clear hpl3 hfar3 hlow3 HFR hge2
          cases hc2 : freshC xs t with
          | succ c =>
            have hbad := HBD.out (by rw [hc2]; simp)
            rw [hc2] at hbad
            have hsame : putL xs t = xs := fresh_same (by rw [hc2]; simp)
            have hln := len_any w3 _ p m v3 _ HPL3.out
            rw [hsame] at hln
            have HLN := Lib.hid hln
            have HBAD := Lib.hid hbad
            clear hc2 hbad hln hsame
            simp only [errV]
            go_wp2_with fail
            (with_reducible refine HLN.out.mono ?_)
            rintro e4 w4 ⟨rfl, rfl⟩
            go_wp2_with fail
            go_ret2
            unfold ReadPost
            rw [if_neg hbig, HAT.out.rel, HBAD.out, if_neg (by simp)]
            exact ⟨_, rfl, heap_new _ _, HLOW3.out.size, HLOW3.out.alloc HLOW3.out.size _⟩
          | zero =>
            have hst := HST.out hc2
            have HST2 := Lib.hid hst
            clear hc2 hst
            simp only [errV]
            go_wp2_with fail
            go_roundw
            case rel =>
              refine ⟨r2, putL xs t, v3, rfl, HAT.out.rel.trans HST2.out, HPL3.out, HLOW3.out, ?_⟩
              have h1 := HTL.out.1
              have h2 := HAT.out.len
              omega
            case measure =>
              have h1 := HTL.out.1
              have h2 := HSZ.out
              rw [List.length_cons] at h1
              show (mk r2).size < S.size
              have h3 : (mk r2).size = r2.length := rfl
              omega
end Pl
end Go.Proofs.YtmlndamkcipebaaDoor
