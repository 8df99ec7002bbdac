/- package pool: the first text of many; a text that is not there yet. -/
import Derived.Test.YtmlndamkcipebaaDoorPoolText
import Derived.Test.YtmlndamkcipebaaDoorFirst
namespace Go.Proofs.YtmlndamkcipebaaDoor
open Go Go.RowKit Lmd
namespace Pl
open Rul Day Cand Tp Pk

/-- the first text: the error's number, the text, what is behind it -/
def takeX (l : List UInt8) : Nat × List UInt8 × List UInt8 :=
  if lenOk 58 l = true then
    if 10000 < lenN 58 l then (2, [], [])
    else if (lenR 58 l)[(lenN 58 l).toNat]? = some 10 then (0, (lenR 58 l).take (lenN 58 l).toNat, (lenR 58 l).drop ((lenN 58 l).toNat + 1))
    else (1, [], [])
  else (1, [], [])
set_option maxRecDepth 100000 in
set_option maxHeartbeats 1000000 in
theorem take_any (l : List UInt8) (e : Nat → Addr) (m : Int) (w : World) (hs : l.length ≤ 2000000) (he : EL w e) (hE : ELib w) (htab : Lib.TabIs Tryd.prog w "internal/strconv.uint64pow10" .u64 Lib.pow10Tab) (hm : w.cell? ⟨13, 0, none⟩ = some (.int .i64 m)) :
    Calls Tryd.prog 58 #[.string (mk l)] w fun er w' => er = .returned (.tuple #[.string (mk (takeX l).2.1), .string (mk (takeX l).2.2), errV e (takeX l).1]) ∧ Below w.heap.size w w' := by
  have hl := length_any (mk l) m w hs hE htab hm
  have e0 : (mk l).data.toList = l := rfl
  rw [e0] at hl
  have hlen : (lenR 58 l).length ≤ 2000000 := Nat.le_trans (lenR_le 58 l) hs
  obtain ⟨A, hA⟩ : ∃ A, mk l = A := ⟨_, rfl⟩
  rw [hA] at hl ⊢
  have HL := Lib.hid hl
  have HE := Lib.hid he
  clear hl hE htab hm he e0 hA
  obtain ⟨R, hR⟩ : ∃ R, lenR 58 l = R := ⟨_, rfl⟩
  obtain ⟨n, hn⟩ : ∃ n, lenN 58 l = n := ⟨_, rfl⟩
  obtain ⟨k, hk⟩ : ∃ k, lenOk 58 l = k := ⟨_, rfl⟩
  have htk : takeX l = if k = true then if 10000 < n then (2, [], []) else if R[n.toNat]? = some 10 then (0, R.take n.toNat, R.drop (n.toNat + 1)) else (1, [], []) else (1, [], []) := by unfold takeX; rw [hk, hn, hR]
  unfold LenPost at HL
  rw [hR, hn, hk] at HL
  rw [hR] at hlen
  have hpos : k = true → 0 ≤ n := fun h => by rw [← hn]; exact (len_split (by rw [hk]; exact h)).2.1
  have HT := Lib.hid htk
  have HP := Lib.hid hpos
  clear hR hn hk htk hpos
  have hrz : (mk R).size = R.length := by simp [ByteArray.size]
  obtain ⟨S, hS⟩ : ∃ S, mk R = S := ⟨_, rfl⟩
  have hSR : S.data.toList = R := by rw [← hS]
  rw [hS] at HL hrz
  have HSR := Lib.hid hSR
  clear hS hSR
  go_enter Tryd.func58, Tryd.ntmps58
  go_wp2_with fail
  (with_reducible refine HL.out.mono ?_)
  rintro e1 w1 ⟨n', rfl, hn', hb1⟩
  have c0 := (HE.out.below hb1).s0.cell
  have c1 := (HE.out.below hb1).s1.cell
  have HB := Lib.hid hb1
  clear hb1 HL
  cases k with
  | false =>
    have ht : takeX l = (1, [], []) := by rw [HT.out]; rfl
    have HTK := Lib.hid ht
    clear hn' HT HP ht
    go_wp2_with fail
    go_quiet (fail)
    go_wp2
    go_ret3
    exact ⟨by rw [HTK.out]; rfl, below_draw HB.out _⟩
  | true =>
    obtain rfl : n' = n := hn' rfl
    have h0 : 0 ≤ n' := HP.out rfl
    clear hn' HP
    by_cases h1 : 10000 < n'
    · have ht : takeX l = (2, [], []) := by rw [HT.out, if_pos rfl, if_pos h1]
      have HTK := Lib.hid ht
      clear HT ht
      go_wp2_with fail
      go_quiet (fail)
      go_wp2
      go_ret3
      exact ⟨by rw [HTK.out]; rfl, below_draw HB.out _⟩
    · obtain ⟨j, rfl⟩ : ∃ j : Nat, n' = (j : Int) := ⟨n'.toNat, by omega⟩
      have hjn : ((j : Int)).toNat = j := by simp
      by_cases h2 : j < R.length
      · obtain ⟨y, hy⟩ : ∃ y, R[j]? = some y := ⟨_, List.getElem?_eq_getElem h2⟩
        have hjT : j < S.size := by omega
        have hTy : (S[j] : UInt8) = y := at_of S j y hjT (by rw [HSR.out]; exact hy)
        have hj3 : ¬ ((S.size : Int) ≤ (j : Int)) := by omega
        have hj4 : (j : Int) < (S.size : Int) := by omega
        have hj5 : j + 1 ≤ S.size := by omega
        have hj7 : j ≤ S.size := by omega
        have hj6 : (j : Int) + 1 ≤ (S.size : Int) := by omega
        have hSs : S.size ≤ 2000000 := by omega
        have HZ := Lib.hid hrz
        have HY := Lib.hid hy
        clear hy h2 hrz
        by_cases h3 : y = 10
        · subst h3
          have hext0 : S.extract 0 j = mk (R.take j) := mk_of (by rw [ext_take, HSR.out])
          have hext1 : S.extract (j + 1) S.size = mk (R.drop (j + 1)) := mk_of (by
            rw [ext_mid, HSR.out]
            exact List.take_of_length_le (by rw [List.length_drop]; have := HZ.out; omega))
          have ht : takeX l = (0, R.take j, R.drop (j + 1)) := by rw [HT.out, if_pos rfl, if_neg h1, hjn, HY.out, if_pos rfl]
          have HTK := Lib.hid ht
          have hs1 : IntKind.i64.wrap ((j : Int) + 1) = (j : Int) + 1 := IntWalk.i64_in _ (by omega)
          have hs2 : (0 : Int) ≤ (j : Int) + 1 := by omega
          have hs3 : ((j : Int) + 1).toNat = j + 1 := by omega
          clear HT ht
          go_upto_region 8 with fail
          go_cut [2, 3, 4] from 33 (fun s2 s3 s4 wx => s2 = .string (mk (R.take j)) ∧ s3 = .string (mk (R.drop (j + 1))) ∧ s4 = .nilIface ∧ Below w.heap.size w wx)
          case first =>
            go_region_law (fail)
            all_goals simp only [List.getElem_toArray, List.getElem_cons_succ, List.getElem_cons_zero, Act.put, List.setIfInBounds_toArray, List.set_cons_succ, List.set_cons_zero]
            all_goals go_wp2_with fail
            all_goals go_meet
            all_goals exact ⟨rfl, rfl, rfl, below_drew' HB.out⟩
          case rest =>
            obtain ⟨rfl, rfl, rfl, hbx⟩ := hcut
            go_wp2
            go_ret3
            exact ⟨by rw [HTK.out]; rfl, hbx⟩
        · have ht : takeX l = (1, [], []) := by rw [HT.out, if_pos rfl, if_neg h1, hjn, HY.out, if_neg (by simpa using h3)]
          have HTK := Lib.hid ht
          have hy3 : ((y.toNat : Int) != 10) = true := by
            rw [bne_iff_ne]
            intro e
            exact h3 (UInt8.toNat_inj.1 (by show y.toNat = 10; omega))
          clear HT ht h3
          go_wp2_with fail
          go_quiet (fail)
          go_wp2
          go_ret3
          exact ⟨by rw [HTK.out]; rfl, below_draw HB.out _⟩
      · have ht : takeX l = (1, [], []) := by rw [HT.out, if_pos rfl, if_neg h1, hjn, List.getElem?_eq_none (by omega)]; rfl
        have HTK := Lib.hid ht
        have hj3 : (S.size : Int) ≤ (j : Int) := by omega
        clear HT ht
        go_wp2_with fail
        go_quiet (fail)
        go_wp2
        go_ret3
        exact ⟨by rw [HTK.out]; rfl, below_draw HB.out _⟩
end Pl
end Go.Proofs.YtmlndamkcipebaaDoor
