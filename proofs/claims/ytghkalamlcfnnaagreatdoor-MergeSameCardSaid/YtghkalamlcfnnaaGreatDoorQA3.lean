/- DayText, RangeE: texts joined. -/
import Derived.Test.YtghkalamlcfnnaaGreatDoorQA2
import Derived.Test.YtghkalamlcfnnaaGreatDoorQShelf
import Derived.RangeFuncNested
import Derived.RangeFuncBound
import Derived.RangeFuncCalls
import Derived.RangeFuncLeaves
import Derived.Shelf.Abstract
import Derived.Shelf.RegionOpen
import Derived.WalkKit
import Derived.OwnWalkIn
import Derived.TacticsInMore
import Derived.LoopNIn
import Derived.LoopIn
section
namespace Go.Proofs.YtghkalamlcfnnaaGreatDoor
open Go.RowKit Lmd
namespace Day
theorem below_draw {B : Nat} {a w : World} (h : Below B a w) (k : Nat) : Below B a (w.drewN k) := below_drewN h k
theorem below2 {w a b : World} (h : Below w.heap.size w a) (k : Below a.heap.size a b) : Below w.heap.size w b := h.trans (k.mono h.size)
theorem cat (a b : List UInt8) : (⟨a.toArray⟩ ++ ⟨b.toArray⟩ : ByteArray) = ⟨(a ++ b).toArray⟩ := by rw [ByteArray.mk_append_mk]
theorem dec_len (n : Nat) (h : n < 100) : (Lib.decDigits n).length ≤ 2 := by
  by_cases h1 : n < 10
  · rw [Lib.decDigits_one h1]; simp
  · rw [Lib.decDigits_two h1 h]; simp
set_option maxHeartbeats 400000 in
theorem two_any (k : Int) (w : World) (h1 : 0 ≤ k) (h2 : k ≤ 99) :
    Calls Tryz.prog 197 #[.int .i64 k] w fun e w' => e = .returned (.string ⟨(Cal.twoT k).toArray⟩) ∧ w = w' := by
  obtain ⟨n, rfl⟩ := Int.eq_ofNat_of_zero_le h1
  have hn : n < 100 := by omega
  have hl := dec_len n hn
  by_cases h : n < 10
  · have HE := Lib.hid (Cal.dec_one n h)
    go_enter Tryz.func197, Tryz.ntmps197
    go_wp2_with (go_at_call 142; refine (Tryz.strconv_Itoa_small n hn _).mono ?_; rintro e w' ⟨rfl, rfl⟩)
    go_ret
    exact ⟨by rw [← HE.out]; exact congrArg (fun s => Ending.returned (.string s)) (cat [48] _), rfl⟩
  · have HE := Lib.hid (Cal.dec_two n (by omega) hn)
    go_enter Tryz.func197, Tryz.ntmps197
    go_wp2_with (go_at_call 142; refine (Tryz.strconv_Itoa_small n hn _).mono ?_; rintro e w' ⟨rfl, rfl⟩)
    go_ret
    exact ⟨by rw [← HE.out]; rfl, rfl⟩
theorem twoT_len (k : Int) : (Cal.twoT k).length ≤ 2 := Nat.le_refl _
theorem text_cat (y m d : Int) : (⟨(Cal.fourT y).toArray⟩ ++ ⟨#[45]⟩ ++ ⟨(Cal.twoT m).toArray⟩ ++ ⟨#[45]⟩ ++ ⟨(Cal.twoT d).toArray⟩ : ByteArray) = ⟨(Cal.text y m d).toArray⟩ := by
  rw [show (⟨#[45]⟩ : ByteArray) = ⟨[45].toArray⟩ from rfl, cat, cat, cat, cat]; rfl
theorem below_grow (w : World) (k : Nat) (os : Array Obj) : Below w.heap.size w (Sort.grow (w.drewN k) os) := by
  refine ⟨rfl, rfl, rfl, by simp [Sort.grow, World.drewN], fun i hi => ?_⟩
  show (w.heap ++ os)[i]? = _
  rw [Array.getElem?_append_left hi]
theorem itoa_year (y : Int) (w : World) (h1 : 1000 ≤ y) (h2 : y ≤ 9999) (htab : Lib.TabIs Tryz.prog w "internal/strconv.uint64pow10" .u64 Lib.pow10Tab) :
    Calls Tryz.prog 142 #[.int .i64 y] w fun e w' => e = .returned (.string ⟨(Cal.fourT y).toArray⟩) ∧ Below w.heap.size w w' := by
  refine (Tryz.strconv_Itoa y (by omega) (by omega) w htab).mono ?_
  rintro e w' ⟨rfl, k, os, rfl⟩
  exact ⟨by rw [Cal.itoa_four y h1 h2], below_grow _ _ _⟩
set_option maxHeartbeats 800000 in
theorem text_at (n y m d : Int) (w : World) (h : Cal.At n y m d) (htab : Lib.TabIs Tryz.prog w "internal/strconv.uint64pow10" .u64 Lib.pow10Tab) :
    Calls Tryz.prog 141 #[.int .i64 n] w fun e w' => e = .returned (.string ⟨(Cal.text y m d).toArray⟩) ∧ Below w.heap.size w w' := by
  obtain ⟨a1, a2, a3, a4, a5, a6⟩ := Cal.ok_range h.1
  have l0 : (Cal.fourT y).length ≤ 4 := Nat.le_refl _
  have l1 := twoT_len m
  have l2 := twoT_len d
  go_enter Tryz.func141, Tryz.ntmps141
  go_wp2_with (first | (go_at_call 196; refine (date_at _ _ _ _ _ h).mono ?_; rintro e w' ⟨rfl, rfl⟩) | (go_at_call 142; refine (itoa_year y _ (by omega) (by omega) htab).mono ?_; rintro e w' ⟨rfl, hb⟩) | (go_at_call 197; refine (two_any _ _ (by omega) (by omega)).mono ?_; rintro e w' ⟨rfl, rfl⟩))
  go_ret
  exact ⟨congrArg (fun s => Ending.returned (.string s)) (text_cat y m d), hb⟩
set_option maxHeartbeats 400000 in
theorem text_no (n : Int) (a : Addr) (w : World) (h : ¬ (0 ≤ n ∧ n ≤ 73048)) (hc : w.cell? ⟨0, 0, none⟩ = some (.iface 348 (.pointer (some a)))) :
    Calls Tryz.prog 141 #[.int .i64 n] w fun e w' => e = .returned (.string ⟨#[]⟩) ∧ ∃ k, w' = w.drewN k := by
  go_enter Tryz.func141, Tryz.ntmps141
  go_wp2_with (go_at_call 196; refine (date_no _ _ _ h hc).mono ?_; rintro e w' ⟨rfl, k, rfl⟩)
  go_ret
  exact ⟨rfl, _, rfl⟩
theorem digs_take (l : List UInt8) (k : Nat) (h : Cal.digs (l.take k) = false) : Cal.digs l = false := by
  rw [← List.take_append_drop k l]
  unfold Cal.digs at *
  rw [List.all_append, h]; rfl
theorem isD_no {c : UInt8} (h : ¬ (48 ≤ c.toNat ∧ c.toNat ≤ 57)) : Cal.isD c = false := by unfold Cal.isD; exact decide_eq_false h
theorem isD_yes {c : UInt8} (h : 48 ≤ c.toNat ∧ c.toNat ≤ 57) : Cal.isD c = true := by unfold Cal.isD; exact decide_eq_true h
set_option maxHeartbeats 1000000 in
theorem number_any (s : ByteArray) (w : World) (hs : s.size ≤ 10) :
    Calls Tryz.prog 229 #[.string s] w fun e w' => e = .returned (.tuple #[.int .i64 (Cal.numR s.data.toList), .bool (Cal.digs s.data.toList)]) ∧ w = w' := by
  go_enter Tryz.func229, Tryz.ntmps229
  go_wp2
  go_loop [4, 8] (fun n i => ∃ k : Nat, k ≤ s.size ∧ i = .int .i64 k ∧ n = .int .i64 (Cal.numV (s.data.toList.take k)) ∧ Cal.digs (s.data.toList.take k) = true) (fun _ i => s.size - (intOf i).toNat)
  case atStart => exact ⟨0, Nat.zero_le _, rfl, rfl, rfl⟩
  case round =>
    obtain ⟨k, hk, rfl, rfl, hd⟩ := hrel
    have hb := Cal.numV_small (s.data.toList.take k) (by simp; omega) hd
    have HD := Lib.hid hd
    clear hd
    by_cases hlt : k < s.size
    · have hts : s.data.toList.take (k + 1) = s.data.toList.take k ++ [s[k]] := by
        rw [List.take_succ_eq_append_getElem (by simpa using hlt)]; rfl
      have HS := Lib.hid hts
      clear hts
      by_cases hdg : 48 ≤ s[k].toNat ∧ s[k].toNat ≤ 57
      · have HG := Lib.hid (isD_yes hdg)
        obtain ⟨d1, d2⟩ := hdg
        go_wp2
        go_round
        case rel => exact ⟨k + 1, by omega, by go_num, by rw [HS.out, Cal.numV_snoc], by rw [HS.out, Cal.digs_snoc, HD.out, HG.out]; rfl⟩
        case measure => simp [intOf]; omega
      · have HG := Lib.hid (isD_no hdg)
        have HN : Hid (Cal.digs s.data.toList = false) := digs_take _ (k + 1) (by rw [HS.out, Cal.digs_snoc, HG.out, Bool.and_false])
        by_cases d1 : s[k].toNat < 48
        · clear hdg
          go_wp2
          go_ret2
          exact ⟨by rw [HN.out, Cal.numR_no HN.out]; rfl, rfl⟩
        · have d2 : 57 < s[k].toNat := by omega
          clear hdg
          go_wp2
          go_ret2
          exact ⟨by rw [HN.out, Cal.numR_no HN.out]; rfl, rfl⟩
    · have HT : Hid (s.data.toList.take k = s.data.toList) := List.take_of_length_le (by simp; omega)
      go_wp2
      go_ret2
      rw [HT.out] at HD
      exact ⟨by rw [HD.out, Cal.numR_yes HD.out]; exact ret2 (congrArg (fun l => Value.int .i64 (Cal.numV l)) HT.out) rfl, rfl⟩
theorem number_at (t : ByteArray) (l : List UInt8) (b : Bool) (w : World) (hl : t.data.toList = l) (hn : l.length ≤ 10) (hd : Cal.digs l = b) :
    Calls Tryz.prog 229 #[.string t] w fun e w' => e = .returned (.tuple #[.int .i64 (Cal.numR l), .bool b]) ∧ w = w' := by
  subst hl hd
  exact number_any t w hn
theorem number_yes (t : ByteArray) (l : List UInt8) (w : World) (hl : t.data.toList = l) (hn : l.length ≤ 10) (hd : Cal.digs l = true) :
    Calls Tryz.prog 229 #[.string t] w fun e w' => e = .returned (.tuple #[.int .i64 (Cal.numV l), .bool true]) ∧ w = w' := by
  rw [← Cal.numR_yes hd]
  exact number_at t l true w hl hn hd
theorem len_take (l : List UInt8) (k : Nat) (h : k ≤ 10) : (l.take k).length ≤ 10 := Nat.le_trans (List.length_take_le _ _) h
theorem len_drop (l : List UInt8) (k : Nat) (h : l.length ≤ 10) : (l.drop k).length ≤ 10 := by rw [List.length_drop]; omega
theorem ext_take (s : ByteArray) (b : Nat) : (s.extract 0 b).data.toList = s.data.toList.take b := by
  rw [Lib.extract_data]; simp
theorem ext_mid (s : ByteArray) (a b : Nat) : (s.extract a b).data.toList = (s.data.toList.drop a).take (b - a) := by
  rw [Lib.extract_data]
theorem at_of (s : ByteArray) (k : Nat) (c : UInt8) (hk : k < s.size) (h : s.data.toList[k]? = some c) : (s[k] : UInt8) = c := by
  rw [List.getElem?_eq_getElem (by simpa using hk)] at h
  have := Option.some.inj h
  rw [← this]; rfl
theorem at_no (s : ByteArray) (k : Nat) (c : UInt8) (hk : k < s.size) (h : ¬ s.data.toList[k]? = some c) : ¬ (s[k] : UInt8) = c := by
  intro e; apply h
  rw [List.getElem?_eq_getElem (by simpa using hk), ← e]; rfl
set_option maxHeartbeats 1000000 in
theorem read_ok (s : ByteArray) (w : World) (h : Cal.shapeB s.data.toList = true) (ho : Cal.Ok (Cal.yOf s.data.toList) (Cal.mOf s.data.toList) (Cal.dOf s.data.toList)) :
    Calls Tryz.prog 186 #[.string s] w fun e w' => e = .returned (.tuple #[.int .i64 (Cal.num (Cal.yOf s.data.toList) (Cal.mOf s.data.toList) (Cal.dOf s.data.toList)), .nilIface]) ∧ w = w' := by
  unfold Cal.shapeB at h
  simp only [Bool.and_eq_true, decide_eq_true_eq] at h
  obtain ⟨⟨⟨⟨⟨h0, h4⟩, h7⟩, a⟩, b⟩, c⟩ := h
  have hz : s.size = 10 := h0
  have q4 : 4 < s.size := by omega
  have q7 : 7 < s.size := by omega
  have c4 := at_of s 4 45 q4 h4
  have c7 := at_of s 7 45 q7 h7
  have n4 : ((s[4].toNat : Int) != 45) = false := by rw [c4]; rfl
  have n7 : ((s[7].toNat : Int) != 45) = false := by rw [c7]; rfl
  have z1 : 4 ≤ s.size := by omega
  have z2 : s.size ≤ 10 := by omega
  have z3 : ((s.size : Int) != 10) = false := by rw [hz]; rfl
  have HZ := Lib.hid hz
  clear h0 h4 h7 c4 c7 hz
  have E1 := Lib.hid (ext_take s 4)
  have E2 := Lib.hid (ext_mid s 5 7)
  have E3 : Hid ((s.extract 8 s.size).data.toList = s.data.toList.drop 8) := by
    rw [ext_mid]; exact List.take_of_length_le (by rw [List.length_drop]; exact Nat.le_refl _)
  have L : s.data.toList.length ≤ 10 := z2
  have A := Lib.hid a
  have B := Lib.hid b
  have C := Lib.hid c
  clear a b c
  go_enter Tryz.func186, Tryz.ntmps186
  go_wp2_with fail
  refine (number_yes _ _ _ E1.out (len_take _ _ (by decide)) A.out).mono ?_; rintro e w' ⟨rfl, rfl⟩
  go_wp2_with fail
  refine (number_yes _ _ _ E2.out (len_take _ _ (by decide)) B.out).mono ?_; rintro e w' ⟨rfl, rfl⟩
  go_wp2_with fail
  refine (number_yes _ _ _ E3.out (len_drop _ _ L) C.out).mono ?_; rintro e w' ⟨rfl, rfl⟩
  go_wp2_with fail
  refine (make_ok _ _ _ _ ho).mono ?_; rintro e w' ⟨rfl, rfl⟩
  go_wp2
  go_ret2
  exact ⟨rfl, rfl⟩
set_option maxHeartbeats 1000000 in
theorem read_bound (s : ByteArray) (ad : Addr) (w : World) (h : Cal.shapeB s.data.toList = true) (ho : ¬ Cal.Ok (Cal.yOf s.data.toList) (Cal.mOf s.data.toList) (Cal.dOf s.data.toList))
    (hc : w.cell? ⟨0, 0, none⟩ = some (.iface 348 (.pointer (some ad)))) :
    Calls Tryz.prog 186 #[.string s] w fun e w' => e = .returned (.tuple #[.int .i64 0, .iface 348 (.pointer (some ad))]) ∧ ∃ k, w' = w.drewN k := by
  unfold Cal.shapeB at h
  simp only [Bool.and_eq_true, decide_eq_true_eq] at h
  obtain ⟨⟨⟨⟨⟨h0, h4⟩, h7⟩, a⟩, b⟩, c⟩ := h
  have hz : s.size = 10 := h0
  have q4 : 4 < s.size := by omega
  have q7 : 7 < s.size := by omega
  have c4 := at_of s 4 45 q4 h4
  have c7 := at_of s 7 45 q7 h7
  have n4 : ((s[4].toNat : Int) != 45) = false := by rw [c4]; rfl
  have n7 : ((s[7].toNat : Int) != 45) = false := by rw [c7]; rfl
  have z1 : 4 ≤ s.size := by omega
  have z2 : s.size ≤ 10 := by omega
  have z3 : ((s.size : Int) != 10) = false := by rw [hz]; rfl
  have HZ := Lib.hid hz
  clear h0 h4 h7 c4 c7 hz
  have E1 := Lib.hid (ext_take s 4)
  have E2 := Lib.hid (ext_mid s 5 7)
  have E3 : Hid ((s.extract 8 s.size).data.toList = s.data.toList.drop 8) := by
    rw [ext_mid]; exact List.take_of_length_le (by rw [List.length_drop]; exact Nat.le_refl _)
  have L : s.data.toList.length ≤ 10 := z2
  have A := Lib.hid a
  have B := Lib.hid b
  have C := Lib.hid c
  clear a b c
  go_enter Tryz.func186, Tryz.ntmps186
  go_wp2_with fail
  refine (number_yes _ _ _ E1.out (len_take _ _ (by decide)) A.out).mono ?_; rintro e w' ⟨rfl, rfl⟩
  go_wp2_with fail
  refine (number_yes _ _ _ E2.out (len_take _ _ (by decide)) B.out).mono ?_; rintro e w' ⟨rfl, rfl⟩
  go_wp2_with fail
  refine (number_yes _ _ _ E3.out (len_drop _ _ L) C.out).mono ?_; rintro e w' ⟨rfl, rfl⟩
  go_wp2_with fail
  refine (make_err _ _ _ ad _ ho hc).mono ?_; rintro e w' ⟨rfl, k, rfl⟩
  go_wp2
  go_ret2
  exact ⟨rfl, _, rfl⟩
set_option maxHeartbeats 1000000 in
theorem read_signs (s : ByteArray) (ad : Addr) (w : World) (h : s.size ≠ 10 ∨ (s.size = 10 ∧ ¬ s.data.toList[4]? = some 45) ∨ (s.size = 10 ∧ s.data.toList[4]? = some 45 ∧ ¬ s.data.toList[7]? = some 45))
    (hc : w.cell? ⟨1, 0, none⟩ = some (.iface 348 (.pointer (some ad)))) :
    Calls Tryz.prog 186 #[.string s] w fun e w' => e = .returned (.tuple #[.int .i64 0, .iface 348 (.pointer (some ad))]) ∧ ∃ k, w' = w.drewN k := by
  rcases h with h | ⟨hz, h4⟩ | ⟨hz, h4, h7⟩
  · have z3 : ((s.size : Int) != 10) = true := by rw [bne_iff_ne]; omega
    clear h
    go_enter Tryz.func186, Tryz.ntmps186
    go_wp2_with fail
    go_quiet (fail)
    go_wp2
    go_ret2
    exact ⟨rfl, _, rfl⟩
  · have q4 : 4 < s.size := by omega
    have c4 := at_no s 4 45 q4 h4
    have n4 : ((s[4].toNat : Int) != 45) = true := by
      rw [bne_iff_ne]; intro e; apply c4; apply UInt8.toNat.inj; exact Int.ofNat.inj e
    have z3 : ((s.size : Int) != 10) = false := by rw [hz]; rfl
    clear hz h4 c4
    go_enter Tryz.func186, Tryz.ntmps186
    go_wp2_with fail
    go_quiet (fail)
    go_wp2
    go_ret2
    exact ⟨rfl, _, rfl⟩
  · have q4 : 4 < s.size := by omega
    have q7 : 7 < s.size := by omega
    have c4 := at_of s 4 45 q4 h4
    have n4 : ((s[4].toNat : Int) != 45) = false := by rw [c4]; rfl
    have c7 := at_no s 7 45 q7 h7
    have n7 : ((s[7].toNat : Int) != 45) = true := by
      rw [bne_iff_ne]; intro e; apply c7; apply UInt8.toNat.inj; exact Int.ofNat.inj e
    have z3 : ((s.size : Int) != 10) = false := by rw [hz]; rfl
    clear hz h4 h7 c4 c7
    go_enter Tryz.func186, Tryz.ntmps186
    go_wp2_with fail
    go_quiet (fail)
    go_wp2
    go_ret2
    exact ⟨rfl, _, rfl⟩
set_option maxHeartbeats 1000000 in
theorem read_digits (s : ByteArray) (ad : Addr) (w : World) (hz : s.size = 10) (h4 : s.data.toList[4]? = some 45) (h7 : s.data.toList[7]? = some 45)
    (hd : (Cal.digs (s.data.toList.take 4) && Cal.digs ((s.data.toList.drop 5).take 2) && Cal.digs (s.data.toList.drop 8)) = false)
    (hc : w.cell? ⟨1, 0, none⟩ = some (.iface 348 (.pointer (some ad)))) :
    Calls Tryz.prog 186 #[.string s] w fun e w' => e = .returned (.tuple #[.int .i64 0, .iface 348 (.pointer (some ad))]) ∧ ∃ k, w' = w.drewN k := by
  have q4 : 4 < s.size := by omega
  have q7 : 7 < s.size := by omega
  have c4 := at_of s 4 45 q4 h4
  have c7 := at_of s 7 45 q7 h7
  have n4 : ((s[4].toNat : Int) != 45) = false := by rw [c4]; rfl
  have n7 : ((s[7].toNat : Int) != 45) = false := by rw [c7]; rfl
  have z1 : 4 ≤ s.size := by omega
  have z2 : s.size ≤ 10 := by omega
  have z3 : ((s.size : Int) != 10) = false := by rw [hz]; rfl
  clear h4 h7 c4 c7 hz
  have E1 := Lib.hid (ext_take s 4)
  have E2 := Lib.hid (ext_mid s 5 7)
  have E3 : Hid ((s.extract 8 s.size).data.toList = s.data.toList.drop 8) := by
    rw [ext_mid]; exact List.take_of_length_le (by rw [List.length_drop]; exact Nat.le_refl _)
  have L : s.data.toList.length ≤ 10 := z2
  obtain ⟨a, A⟩ : ∃ a, Cal.digs (s.data.toList.take 4) = a := ⟨_, rfl⟩
  obtain ⟨b, B⟩ : ∃ b, Cal.digs ((s.data.toList.drop 5).take 2) = b := ⟨_, rfl⟩
  obtain ⟨c, C⟩ : ∃ c, Cal.digs (s.data.toList.drop 8) = c := ⟨_, rfl⟩
  rw [A, B, C] at hd
  have A' := Lib.hid A
  have B' := Lib.hid B
  have C' := Lib.hid C
  clear A B C
  have hcase : a = false ∨ (a = true ∧ b = false) ∨ (a = true ∧ b = true ∧ c = false) := by
    cases a <;> cases b <;> cases c <;> simp_all
  clear hd
  rcases hcase with rfl | ⟨rfl, rfl⟩ | ⟨rfl, rfl, rfl⟩
  all_goals
    go_enter Tryz.func186, Tryz.ntmps186
    go_wp2_with fail
    refine (number_at _ _ _ _ E1.out (len_take _ _ (by decide)) A'.out).mono ?_; rintro e w' ⟨rfl, rfl⟩
    go_wp2_with fail
    refine (number_at _ _ _ _ E2.out (len_take _ _ (by decide)) B'.out).mono ?_; rintro e w' ⟨rfl, rfl⟩
    go_wp2_with fail
    refine (number_at _ _ _ _ E3.out (len_drop _ _ L) C'.out).mono ?_; rintro e w' ⟨rfl, rfl⟩
    go_wp2_with fail
    go_quiet (fail)
    go_wp2
    go_ret2
    exact ⟨rfl, _, rfl⟩
theorem read_text (s : ByteArray) (ad : Addr) (w : World) (h : Cal.shapeB s.data.toList = false)
    (hc : w.cell? ⟨1, 0, none⟩ = some (.iface 348 (.pointer (some ad)))) :
    Calls Tryz.prog 186 #[.string s] w fun e w' => e = .returned (.tuple #[.int .i64 0, .iface 348 (.pointer (some ad))]) ∧ ∃ k, w' = w.drewN k := by
  by_cases h0 : s.size = 10
  · by_cases h4 : s.data.toList[4]? = some 45
    · by_cases h7 : s.data.toList[7]? = some 45
      · refine read_digits s ad w h0 h4 h7 ?_ hc
        unfold Cal.shapeB at h
        have h0' : s.data.toList.length = 10 := h0
        rw [decide_eq_true h0', decide_eq_true h4, decide_eq_true h7] at h
        simpa using h
      · exact read_signs s ad w (Or.inr (Or.inr ⟨h0, h4, h7⟩)) hc
    · exact read_signs s ad w (Or.inr (Or.inl ⟨h0, h4⟩)) hc
  · exact read_signs s ad w (Or.inl h0) hc
end Day
end Go.Proofs.YtghkalamlcfnnaaGreatDoor
end
section
namespace Lmd.Rng
open Go Go.RowKit
structure Stay (O : Nat → Prop) (hi : Nat) (W W' : World) : Prop where
  os : W'.os = W.os
  tape : W'.tape = W.tape
  output : W'.output = W.output
  size : W.heap.size ≤ W'.heap.size
  same : ∀ (b : Nat) (o : Obj), W.heap[b]? = some o → (o.isCells = false ∨ (¬ O b ∧ b < hi)) → W'.heap[b]? = some o
theorem Stay.refl (O : Nat → Prop) (hi : Nat) (W : World) : Stay O hi W W := ⟨rfl, rfl, rfl, Nat.le_refl _, fun _ _ h _ => h⟩
theorem Stay.trans {O : Nat → Prop} {hi : Nat} {A B C : World} (h : Stay O hi A B) (k : Stay O hi B C) : Stay O hi A C :=
  ⟨k.os.trans h.os, k.tape.trans h.tape, k.output.trans h.output, Nat.le_trans h.size k.size, fun b o hb ho => k.same b o (h.same b o hb ho) ho⟩
theorem Stay.of_below {O : Nat → Prop} {hi : Nat} {A B : World} (h : Below A.heap.size A B) : Stay O hi A B :=
  ⟨h.os, h.tape, h.output, h.size, fun b o hb _ => by rw [h.block b (Array.getElem?_eq_some_iff.1 hb).1]; exact hb⟩
theorem Stay.setCell {O : Nat → Prop} {hi : Nat} {A B : World} (h : Stay O hi A B) {p : Addr} (hp : O p.block ∨ hi ≤ p.block) (hcell : ∀ o, A.heap[p.block]? = some o → o.isCells = true) (v : Value) : Stay O hi A (B.setCell p v) := by
  refine ⟨h.os, h.tape, h.output, by simpa [World.setCell] using h.size, fun b o hb ho => ?_⟩
  have hne : b ≠ p.block := by
    rintro rfl
    rcases ho with ho | ⟨h1, h2⟩
    · rw [hcell o hb] at ho; cases ho
    · rcases hp with hp | hp
      · exact h1 hp
      · omega
  rw [Below.heap_setCell _ _ _ _ hne]
  exact h.same b o hb ho
theorem Stay.mono {O O' : Nat → Prop} {hi hi' : Nat} {A B : World} (h : Stay O hi A B) (hO : ∀ b, b < hi' → O b → O' b) (hh : hi' ≤ hi) : Stay O' hi' A B :=
  ⟨h.os, h.tape, h.output, h.size, fun b o hb ho => h.same b o hb (ho.imp id fun ⟨a, c⟩ => ⟨fun x => a (hO b c x), by omega⟩)⟩
def Rest (B : Nat) (W W' : World) : Prop := ∀ (b : Nat) (o : Obj), B ≤ b → W.heap[b]? = some o → o.isCells = false → W'.heap[b]? = some o
theorem Stay.rest {O : Nat → Prop} {hi : Nat} {A B : World} (h : Stay O hi A B) (n : Nat) : Rest n A B := fun b o _ hb ho => h.same b o hb (.inl ho)
theorem Rest.trans {n : Nat} {A B C : World} (h : Rest n A B) (k : Rest n B C) : Rest n A C := fun b o hn hb ho => k b o hn (h b o hn hb ho) ho
def Stable {β : Type} (B : Nat) (J : Nat → β → World → Prop) : Prop :=
  ∀ hi s W W' row, B ≤ hi → J hi s W → W.grownBy W' row → (∀ r, row = some r → B ≤ r ∧ r < hi) → J hi s W'
theorem Stable.alloc {β : Type} {B : Nat} {J : Nat → β → World → Prop} (h : Stable B J) {hi : Nat} {s : β} {W : World} (o : Obj) (hB : B ≤ hi) (hs : J hi s W) : J hi s (W.alloc o) :=
  h hi s W _ none hB hs (World.grownBy_alloc W o none) (fun r e => by cases e)
theorem grownBy_of_below {W W' : World} (h : Below W.heap.size W W') : W.grownBy W' none := ⟨h.os, h.tape, h.output, h.size, fun k hk _ => h.block k hk⟩
abbrev dp : Nat := 7
def Post {α : Type} (B : Nat) (O : Nat → Prop) (I : Nat → List α → World → Prop) (Ix : Code → Nat → List α → World → Prop) (hi : Nat) (xs : List α) (W : World) : Exit → Act → World → Prop
  | .normal, _, W' => Stay O hi W W' ∧ I hi xs W'
  | .ret, _, W' => Rest B W W' ∧ Ix .ret hi xs W'
  | .exit id, _, W' => Rest B W W' ∧ Ix (.exit id) hi xs W'
  | .goto t, _, W' => Rest B W W' ∧ Ix (.goto t) hi xs W'
  | .panic _, _, _ => False
  | .outgrown, _, _ => False
theorem room_wide (k : Nat) : Fence.wide.room k := fun d h => by cases h
theorem roundIn_any {m m' : Nat} {P : Program} {l : Nat} {f : FuncId} {tmps : Array Value} {assign body : Code} {w : World} {R : Ending → World → Prop}
    (h : RoundIn Fence.wide m P l f tmps assign body w R) : RoundIn Fence.wide m' P l f tmps assign body w R := ⟨h.1, fun c cs _ => h.2 c cs (room_wide _)⟩
variable {n : Nat} {P : Program}
end Lmd.Rng
namespace Lmd.Rge
open Go Go.RowKit Lmd.Rng
def Stable {β : Type} (E : Nat → Prop) (B : Nat) (J : Nat → β → World → Prop) : Prop :=
  ∀ hi s W W' row, B ≤ hi → J hi s W → W.grownBy W' row → (∀ r, row = some r → (B ≤ r ∧ r < hi) ∨ E r) → J hi s W'
theorem Stable.putObj {β : Type} {E : Nat → Prop} {B : Nat} {J : Nat → β → World → Prop} (h : Stable E B J) {hi : Nat} {s : β} {W : World} {l : Nat} (o : Obj) (hB : B ≤ hi) (hs : J hi s W) (h1 : (B ≤ l ∧ l < hi) ∨ E l) : J hi s (W.putObj l o) :=
  h hi s W _ (some l) hB hs (grownBy_putObj' W l o) (fun r e => by cases e; exact h1)
theorem Stable.alloc {β : Type} {E : Nat → Prop} {B : Nat} {J : Nat → β → World → Prop} (h : Stable E B J) {hi : Nat} {s : β} {W : World} (o : Obj) (hB : B ≤ hi) (hs : J hi s W) : J hi s (W.alloc o) :=
  h hi s W _ none hB hs (World.grownBy_alloc W o none) (fun r e => by cases e)
def Seq {α : Type} (P : Program) (g : Nat) (lb : Array Value) (encs : α → Array Value) (E : Nat → Prop) (R : (Nat → Prop) → Prop) (S Sp : List α → Prop) (N : Nat) (w : World) : Prop :=
  ∀ (O : Nat → Prop) (l : Nat) (J Jx : Nat → List α → World → Prop) (W : World), Below w.heap.size w W → R O → (∀ b, O b → b < W.heap.size) → l < W.heap.size → Stable E W.heap.size J → Stable E W.heap.size Jx →
    (∀ hi pre x W1, W.heap.size ≤ hi → J hi pre W1 → pre.length < N → YieldAt Fence.wide dp P l (encs x) W1 fun e W' =>
      (e = .returned (.bool true) ∧ J hi (pre ++ [x]) W' ∧ Stay O hi W1 W') ∨ (e = .returned (.bool false) ∧ Jx hi (pre ++ [x]) W' ∧ Rest W.heap.size W1 W')) →
    (∀ W', Below W.heap.size W W' → J W'.heap.size [] W') →
    Calls P g (#[.func (.yield l) #[] #[]] ++ lb) W fun e W' => (∃ v, e = .returned v) ∧ ∃ hi, W.heap.size ≤ hi ∧ ((∃ xs, S xs ∧ J hi xs W') ∨ (∃ pre, Sp pre ∧ Jx hi pre W'))
variable {n : Nat} {P : Program}
theorem range_law {α : Type} {g : Operand} {ps : Array Tmp} {assign body : Code} {Q : Exit → Act → World → Prop} {a : Act} {w : World}
    (h1 : 1 ≤ n) {gf : Nat} {lb : Array Value} (hg : a.eval g = .func (.func gf) #[] lb) (eg : ∀ args w, (callFunc gf args).run P w = .ok (.enter gf args) w)
    {encs : α → Array Value} {E : Nat → Prop} {R : (Nat → Prop) → Prop} {S Sp : List α → Prop} {N : Nat} {w0 : World} (hseq : Seq P gf lb encs E R S Sp N w0)
    (hb0 : Below w0.heap.size w0 w) (hps : ∀ x, (encs x).size = ps.size) (hE : ∀ b, E b → b < w.heap.size) (O : Nat → Prop) (hO : ∀ b, O b → b < w.heap.size) (hR : R O)
    (I : Nat → List α → World → Prop) (Ix : Code → Nat → List α → World → Prop) (hI : Stable E w.heap.size I) (hIx : ∀ c, Stable E w.heap.size (Ix c)) (h0 : ∀ W', Below w.heap.size w W' → I W'.heap.size [] W') (a₁ : α → Act)
    (hassign : ∀ (l : Nat) (x : α) (W : World) (K : Act → World → Prop), K (a₁ x) W →
      assign.wpIn (Fence.wide.inRound l) (n - 1 - 1) P (Exit.then K (fun _ _ _ => False)) { tmps := (ps.zip (encs x)).foldl (fun t (p, v) => t.setIfInBounds p v) a.tmps, defers := [] } W)
    (hbody : ∀ (hi l : Nat) (pre : List α) (x : α) (W : World), w.heap.size + 2 ≤ hi → I hi pre W → pre.length < N → body.wpIn (Fence.wide.inRound l) (n - 1 - 1) P (Post w.heap.size O I Ix hi (pre ++ [x]) W) (a₁ x) W)
    (hdone : ∀ (D hi : Nat) (xs : List α) (W : World), w.heap.size ≤ D → D < hi → S xs → I hi xs W → W.heap[D]? = some (.deferred (some [])) → Q .normal { a with defers := { target := .collected D, args := #[] } :: a.defers } W)
    (hstop : ∀ (D hi : Nat) (c : Code) (pre : List α) (W : World), w.heap.size ≤ D → D < hi → Sp pre → Ix c hi pre W → W.heap[D]? = some (.deferred (some [])) → c.wpIn Fence.wide n P Q { a with defers := { target := .collected D, args := #[] } :: a.defers } W) :
    (Code.rangeFunc g ps assign body).wpIn Fence.wide n P Q a w := by
  refine wpIn_rangeFunc ?_
  intro fn hfn
  rw [show Fence.wide.round = none from rfl]
  obtain ⟨rec, hrec⟩ : ∃ rec : LoopState → Option Code → Loop, rec = fun st pe => { state := st, pending := pe, fn, tmps := a.tmps, params := ps, assign, body, defers := w.heap.size } := ⟨_, rfl⟩
  obtain ⟨W1, hW1⟩ : ∃ W1, (w.alloc (.deferred (some []))).alloc (.loop (rec .ready none)) = W1 := ⟨_, rfl⟩
  have hz : W1.heap.size = w.heap.size + 2 := by rw [← hW1]; simp
  have hL1 : W1.heap[w.heap.size + 1]? = some (.loop (rec .ready none)) := by
    rw [← hW1]; have := World.alloc_heap_new (w.alloc (.deferred (some []))) (.loop (rec .ready none)); rwa [World.size_alloc] at this
  have hK1 : W1.heap[w.heap.size]? = some (.deferred (some [])) := by
    rw [← hW1]; exact (Below.heap_alloc _ _ _ (by simp)).trans (World.alloc_heap_new w _)
  have hw1 : Below w.heap.size w W1 := by rw [← hW1]; exact ((Below.refl _ w).alloc (Nat.le_refl _) _).alloc (by simp) _
  have hb1 : Below w0.heap.size w0 W1 := hb0.trans (hw1.mono hb0.size)
  have hlt2 : ∀ {W : World} {b : Nat} {o : Obj}, W.heap[b]? = some o → b < W.heap.size := fun h => (Array.getElem?_eq_some_iff.1 h).1
  refine ⟨w.heap.size + 1, [{ target := .collected w.heap.size, args := #[] }], W1, { target := .fn (.func gf) lb, args := #[.func (.yield (w.heap.size + 1)) #[] #[]] }, W1, gf,
    #[.func (.yield (w.heap.size + 1)) #[] #[]] ++ lb, W1, ?_, ?_, ?_, ?_, fun _ => h1, ?_⟩
  · rw [← hW1, hrec]; exact run_enterLoop_outer _ _ _ _ _
  · simp only [resolve, hg]
    simp [go_sem]
  · intro f' hf'; trivial
  · simp [invoke, go_sem, eg]
  · -- the iterator's contract, at the caller's invariant with the two facts of book-keeping beside it
    have hgr : ∀ {A B : World} {row : Option Nat} {k : Nat} {o : Obj}, A.grownBy B row → (∀ r, row = some r → W1.heap.size ≤ r ∨ r < w.heap.size) → w.heap.size ≤ k → k < W1.heap.size → A.heap[k]? = some o → B.heap[k]? = some o :=
      fun hg' hr hk0 hk hA => (hg'.block _ (hlt2 hA) (fun e => by have := hr _ e.symm; omega)).trans hA
    refine (callsIn_wide.2 (hseq O (w.heap.size + 1)
      (fun hi pre W => I hi pre W ∧ W.heap[w.heap.size + 1]? = some (.loop (rec .ready none)) ∧ W.heap[w.heap.size]? = some (.deferred (some [])))
      (fun hi pre W => ∃ c, Ix c hi pre W ∧ W.heap[w.heap.size + 1]? = some (.loop (rec .done (some c))) ∧ W.heap[w.heap.size]? = some (.deferred (some [])))
      W1 hb1 hR (fun b hb => by have := hO b hb; omega) (by omega)
      (fun hi s A B row hB hs hg' hr => ⟨hI hi s A B row (by omega) hs.1 hg' (fun r e => (hr r e).imp (fun h => ⟨by have := h.1; omega, h.2⟩) id), hgr hg' (fun r e => (hr r e).imp (fun h => h.1) (hE r)) (by omega) (by omega) hs.2.1, hgr hg' (fun r e => (hr r e).imp (fun h => h.1) (hE r)) (by omega) (by omega) hs.2.2⟩)
      (fun hi s A B row hB hs hg' hr => by
        obtain ⟨c, hc, hl, hk⟩ := hs
        exact ⟨c, hIx c hi s A B row (by omega) hc hg' (fun r e => (hr r e).imp (fun h => ⟨by have := h.1; omega, h.2⟩) id), hgr hg' (fun r e => (hr r e).imp (fun h => h.1) (hE r)) (by omega) (by omega) hl, hgr hg' (fun r e => (hr r e).imp (fun h => h.1) (hE r)) (by omega) (by omega) hk⟩)
      ?_ (fun W' hW' => ⟨h0 W' (hw1.trans (hW'.mono (by omega))), by rw [hW'.block _ (by omega)]; exact hL1, by rw [hW'.block _ (by omega)]; exact hK1⟩))).mono ?_
    · -- one round
      rintro hi pre x W hhi ⟨hi', hl, hk⟩ hlen
      have hhi' : w.heap.size + 2 ≤ hi := by omega
      have hlt : w.heap.size + 1 < W.heap.size := hlt2 hl
      have hy := run_yield (P := P) (args := encs x) hl (by rw [hrec]; exact hps x)
      rw [hrec] at hy
      refine ⟨fn, _, assign, body, hy, roundIn_any (roundIn_of_wpIn hfn (hassign _ x W _ ⟨_, run_beginRound hl (by rw [hrec]), ?_⟩))⟩
      have hl2 : (W.putObj (w.heap.size + 1) (.loop { rec .ready none with state := .busy })).heap[w.heap.size + 1]? = some (.loop { rec .ready none with state := .busy }) := World.putObj_heap_same hlt
      have hk2 : (W.putObj (w.heap.size + 1) (.loop { rec .ready none with state := .busy })).heap[w.heap.size]? = some (.deferred (some [])) := (World.putObj_heap_other (by omega)).trans hk
      refine wpIn_mono (hbody hi _ pre x _ hhi' (hI.putObj _ (by omega) hi' (.inl ⟨by omega, by omega⟩)) hlen) ?_
      have fin : ∀ (jump : Option Code) (W3 : World), Rest w.heap.size (W.putObj (w.heap.size + 1) (.loop { rec .ready none with state := .busy })) W3 →
          (Instr.endRound (w.heap.size + 1) jump).run P W3 = .ok (.bool jump.isNone) (W3.putObj (w.heap.size + 1) (.loop (rec (if jump.isNone then .ready else .done) jump))) ∧
          W3.heap[w.heap.size + 1]? = some (.loop { rec .ready none with state := .busy }) ∧
          (W3.putObj (w.heap.size + 1) (.loop (rec (if jump.isNone then .ready else .done) jump))).heap[w.heap.size + 1]? = some (.loop (rec (if jump.isNone then .ready else .done) jump)) ∧
          (W3.putObj (w.heap.size + 1) (.loop (rec (if jump.isNone then .ready else .done) jump))).heap[w.heap.size]? = some (.deferred (some [])) := fun jump W3 hk3 => by
        have hl3 := hk3 _ _ (by omega) hl2 rfl
        have := run_endRound (P := P) jump hl3
        rw [hrec] at this ⊢
        exact ⟨this, by rw [hrec] at hl3; exact hl3, World.putObj_heap_same (hlt2 hl3), (World.putObj_heap_other (by omega)).trans (hk3 _ _ (Nat.le_refl _) hk2 rfl)⟩
      have far : ∀ (jump : Option Code) (W3 : World), Rest w.heap.size (W.putObj (w.heap.size + 1) (.loop { rec .ready none with state := .busy })) W3 → Rest W1.heap.size W (W3.putObj (w.heap.size + 1) (.loop (rec (if jump.isNone then .ready else .done) jump))) :=
        fun jump W3 hk3 b o hB hb ho => by
          rw [World.putObj_heap_other (by omega)]
          exact hk3 b o (by omega) (by rw [World.putObj_heap_other (by omega)]; exact hb) ho
      rintro e a3 W3 hp
      cases e with
      | normal =>
        obtain ⟨hk3, hi3⟩ := hp
        obtain ⟨hr, hl3, hl4, hk4⟩ := fin none W3 (hk3.rest _)
        refine ⟨_, _, hr, .inl ⟨rfl, ⟨hI.putObj _ (by omega) hi3 (.inl ⟨by omega, by omega⟩), hl4, hk4⟩, ⟨hk3.os, hk3.tape, hk3.output, by simpa using hk3.size, fun b o hb ho => ?_⟩⟩⟩
        by_cases e : b = w.heap.size + 1
        · subst e
          rw [hl] at hb
          cases hb
          exact hl4
        · rw [World.putObj_heap_other e]
          exact hk3.same b o (by rw [World.putObj_heap_other e]; exact hb) ho
      | ret =>
        obtain ⟨hk3, hi3⟩ := hp
        obtain ⟨hr, hl3, hl4, hk4⟩ := fin (some .ret) W3 hk3
        exact ⟨_, _, hr, .inr ⟨rfl, ⟨.ret, (hIx _).putObj _ (by omega) hi3 (.inl ⟨by omega, by omega⟩), hl4, hk4⟩, far (some .ret) W3 hk3⟩⟩
      | exit id =>
        obtain ⟨hk3, hi3⟩ := hp
        obtain ⟨hr, hl3, hl4, hk4⟩ := fin (some (.exit id)) W3 hk3
        exact ⟨_, _, hr, .inr ⟨rfl, ⟨.exit id, (hIx _).putObj _ (by omega) hi3 (.inl ⟨by omega, by omega⟩), hl4, hk4⟩, far (some (.exit id)) W3 hk3⟩⟩
      | goto t =>
        obtain ⟨hk3, hi3⟩ := hp
        obtain ⟨hr, hl3, hl4, hk4⟩ := fin (some (.goto t)) W3 hk3
        exact ⟨_, _, hr, .inr ⟨rfl, ⟨.goto t, (hIx _).putObj _ (by omega) hi3 (.inl ⟨by omega, by omega⟩), hl4, hk4⟩, far (some (.goto t)) W3 hk3⟩⟩
      | panic ch => exact hp.elim
      | outgrown => exact hp.elim
    · -- behind the iterator
      rintro e W2 ⟨⟨v, rfl⟩, hi, hhi, (⟨xs, hS, hi2, hl, hk⟩ | ⟨pre, hSp, c, hi2, hl, hk⟩)⟩
      · exact ⟨none, _, by have := run_endLoop (P := P) hl (by rw [hrec]; simp); rw [hrec] at this; exact this, hdone _ hi xs _ (Nat.le_refl _) (by omega) hS (hI.putObj _ (by omega) hi2 (.inl ⟨by omega, by omega⟩)) ((World.putObj_heap_other (by omega)).trans hk)⟩
      · exact ⟨some c, _, by have := run_endLoop (P := P) hl (by rw [hrec]; simp); rw [hrec] at this; exact this, hstop _ hi c pre _ (Nat.le_refl _) (by omega) hSp ((hIx c).putObj _ (by omega) hi2 (.inl ⟨by omega, by omega⟩)) ((World.putObj_heap_other (by omega)).trans hk)⟩
end Lmd.Rge
end
