/- Contracts of the functions of package day that write and read a day's text. -/
import Derived.Test.YtkhkhbeolhhomaaGreatDoorDay
import Derived.Test.YtkhkhbeolhhomaaGreatDoorDig
import Derived.Test.YtkhkhbeolhhomaaGreatDoorShelf
namespace Go.Proofs.YtkhkhbeolhhomaaGreatDoor
open Go.RowKit Lmd

namespace Day
theorem below_draw {B : Nat} {a w : World} (h : Below B a w) (k : Nat) : Below B a (w.drewN k) := below_drewN h k
theorem below2 {w a b : World} (h : Below w.heap.size w a) (k : Below a.heap.size a b) : Below w.heap.size w b := h.trans (k.mono h.size)
theorem ret_str {a b : List UInt8} (h : a = b) : Ending.returned (.string ⟨a.toArray⟩) = .returned (.string ⟨b.toArray⟩) := by rw [h]

theorem cat (a b : List UInt8) : (⟨a.toArray⟩ ++ ⟨b.toArray⟩ : ByteArray) = ⟨(a ++ b).toArray⟩ := by rw [ByteArray.mk_append_mk]
theorem dec_len (n : Nat) (h : n < 100) : (Lib.decDigits n).length ≤ 2 := by
  by_cases h1 : n < 10
  · rw [Lib.decDigits_one h1]; simp
  · rw [Lib.decDigits_two h1 h]; simp

set_option maxHeartbeats 400000 in
theorem two_any (k : Int) (w : World) (h1 : 0 ≤ k) (h2 : k ≤ 99) :
    Calls Tryz.prog 171 #[.int .i64 k] w fun e w' => e = .returned (.string ⟨(Cal.twoT k).toArray⟩) ∧ w = w' := by
  obtain ⟨n, rfl⟩ := Int.eq_ofNat_of_zero_le h1
  have hn : n < 100 := by omega
  have hl := dec_len n hn
  by_cases h : n < 10
  · have HE := Lib.hid (Cal.dec_one n h)
    go_enter Tryz.func171, Tryz.ntmps171
    go_wp2_with (go_at_call 108; refine (Tryz.strconv_Itoa_small n hn _).mono ?_; rintro e w' ⟨rfl, rfl⟩)
    go_ret
    exact ⟨by rw [← HE.out]; exact congrArg (fun s => Ending.returned (.string s)) (cat [48] _), rfl⟩
  · have HE := Lib.hid (Cal.dec_two n (by omega) hn)
    go_enter Tryz.func171, Tryz.ntmps171
    go_wp2_with (go_at_call 108; refine (Tryz.strconv_Itoa_small n hn _).mono ?_; rintro e w' ⟨rfl, rfl⟩)
    go_ret
    exact ⟨by rw [← HE.out]; rfl, rfl⟩

theorem twoT_len (k : Int) : (Cal.twoT k).length ≤ 2 := Nat.le_refl _
theorem text_cat (y m d : Int) : (⟨(Cal.fourT y).toArray⟩ ++ ⟨#[45]⟩ ++ ⟨(Cal.twoT m).toArray⟩ ++ ⟨#[45]⟩ ++ ⟨(Cal.twoT d).toArray⟩ : ByteArray) = ⟨(Cal.text y m d).toArray⟩ := by
  rw [show (⟨#[45]⟩ : ByteArray) = ⟨[45].toArray⟩ from rfl, cat, cat, cat, cat]; rfl
theorem below_grow (w : World) (k : Nat) (os : Array Obj) : Below w.heap.size w (Sort.grow (w.drewN k) os) := by
  refine ⟨rfl, rfl, rfl, by simp [Sort.grow, World.drewN], fun i hi => ?_⟩
  show (w.heap ++ os)[i]? = _
  rw [Array.getElem?_append_left hi]

/-- a year as text -/
theorem itoa_year (y : Int) (w : World) (h1 : 1000 ≤ y) (h2 : y ≤ 9999) (htab : Lib.TabIs Tryz.prog w "internal/strconv.uint64pow10" .u64 Lib.pow10Tab) :
    Calls Tryz.prog 108 #[.int .i64 y] w fun e w' => e = .returned (.string ⟨(Cal.fourT y).toArray⟩) ∧ Below w.heap.size w w' := by
  refine (Tryz.strconv_Itoa y (by omega) (by omega) w htab).mono ?_
  rintro e w' ⟨rfl, k, os, rfl⟩
  exact ⟨by rw [Cal.itoa_four y h1 h2], below_grow _ _ _⟩

set_option maxHeartbeats 800000 in
theorem text_at (n y m d : Int) (w : World) (h : Cal.At n y m d) (htab : Lib.TabIs Tryz.prog w "internal/strconv.uint64pow10" .u64 Lib.pow10Tab) :
    Calls Tryz.prog 107 #[.int .i64 n] w fun e w' => e = .returned (.string ⟨(Cal.text y m d).toArray⟩) ∧ Below w.heap.size w w' := by
  obtain ⟨a1, a2, a3, a4, a5, a6⟩ := Cal.ok_range h.1
  have l0 : (Cal.fourT y).length ≤ 4 := Nat.le_refl _
  have l1 := twoT_len m
  have l2 := twoT_len d
  go_enter Tryz.func107, Tryz.ntmps107
  go_wp2_with (first | (go_at_call 170; refine (date_at _ _ _ _ _ h).mono ?_; rintro e w' ⟨rfl, rfl⟩) | (go_at_call 108; refine (itoa_year y _ (by omega) (by omega) htab).mono ?_; rintro e w' ⟨rfl, hb⟩) | (go_at_call 171; refine (two_any _ _ (by omega) (by omega)).mono ?_; rintro e w' ⟨rfl, rfl⟩))
  go_ret
  exact ⟨congrArg (fun s => Ending.returned (.string s)) (text_cat y m d), hb⟩

set_option maxHeartbeats 400000 in
theorem text_no (n : Int) (a : Addr) (w : World) (h : ¬ (0 ≤ n ∧ n ≤ 73048)) (hc : w.cell? ⟨3, 0, none⟩ = some (.iface 339 (.pointer (some a)))) :
    Calls Tryz.prog 107 #[.int .i64 n] w fun e w' => e = .returned (.string ⟨#[]⟩) ∧ ∃ k, w' = w.drewN k := by
  go_enter Tryz.func107, Tryz.ntmps107
  go_wp2_with (go_at_call 170; refine (date_no _ _ _ h hc).mono ?_; rintro e w' ⟨rfl, k, rfl⟩)
  go_ret
  exact ⟨rfl, _, rfl⟩

theorem digs_take (l : List UInt8) (k : Nat) (h : Cal.digs (l.take k) = false) : Cal.digs l = false := by
  rw [← List.take_append_drop k l]
  unfold Cal.digs at *
  rw [List.all_append, h]; rfl
theorem isD_no {c : UInt8} (h : ¬ (48 ≤ c.toNat ∧ c.toNat ≤ 57)) : Cal.isD c = false := by unfold Cal.isD; exact decide_eq_false h
theorem isD_yes {c : UInt8} (h : 48 ≤ c.toNat ∧ c.toNat ≤ 57) : Cal.isD c = true := by unfold Cal.isD; exact decide_eq_true h

/- the number that digits give, and whether all are digits -/
set_option maxHeartbeats 1000000 in
theorem number_any (s : ByteArray) (w : World) (hs : s.size ≤ 10) :
    Calls Tryz.prog 225 #[.string s] w fun e w' => e = .returned (.tuple #[.int .i64 (Cal.numR s.data.toList), .bool (Cal.digs s.data.toList)]) ∧ w = w' := by
  go_enter Tryz.func225, Tryz.ntmps225
  go_wp2
  go_loop [4, 8] (fun n i => ∃ k : Nat, k ≤ s.size ∧ i = .int .i64 k ∧ n = .int .i64 (Cal.numV (s.data.toList.take k)) ∧ Cal.digs (s.data.toList.take k) = true) (fun _ i => s.size - (intOf i).toNat)
  case atStart => exact ⟨0, Nat.zero_le _, rfl, rfl, rfl⟩
  case round =>
    obtain ⟨k, hk, rfl, rfl, hd⟩ := hrel
    have hb := Cal.numV_small (s.data.toList.take k) (by simp; omega) hd
    have HD := Lib.hid hd
    clear hd
    by_cases hlt : k < s.size
    · have hts : s.data.toList.take (k + 1) = s.data.toList.take k ++ [s[k]] := by
        rw [List.take_succ_eq_append_getElem (by simpa using hlt)]; rfl
      have HS := Lib.hid hts
      clear hts
      by_cases hdg : 48 ≤ s[k].toNat ∧ s[k].toNat ≤ 57
      · have HG := Lib.hid (isD_yes hdg)
        obtain ⟨d1, d2⟩ := hdg
        go_wp2
        go_round
        case rel => exact ⟨k + 1, by omega, by go_num, by rw [HS.out, Cal.numV_snoc], by rw [HS.out, Cal.digs_snoc, HD.out, HG.out]; rfl⟩
        case measure => simp [intOf]; omega
      · have HG := Lib.hid (isD_no hdg)
        have HN : Hid (Cal.digs s.data.toList = false) := digs_take _ (k + 1) (by rw [HS.out, Cal.digs_snoc, HG.out, Bool.and_false])
        by_cases d1 : s[k].toNat < 48
        · clear hdg
          go_wp2
          go_ret2
          exact ⟨by rw [HN.out, Cal.numR_no HN.out]; rfl, rfl⟩
        · have d2 : 57 < s[k].toNat := by omega
          clear hdg
          go_wp2
          go_ret2
          exact ⟨by rw [HN.out, Cal.numR_no HN.out]; rfl, rfl⟩
    · have HT : Hid (s.data.toList.take k = s.data.toList) := List.take_of_length_le (by simp; omega)
      go_wp2
      go_ret2
      rw [HT.out] at HD
      exact ⟨by rw [HD.out, Cal.numR_yes HD.out]; exact ret2 (congrArg (fun l => Value.int .i64 (Cal.numV l)) HT.out) rfl, rfl⟩

theorem number_at (t : ByteArray) (l : List UInt8) (b : Bool) (w : World) (hl : t.data.toList = l) (hn : l.length ≤ 10) (hd : Cal.digs l = b) :
    Calls Tryz.prog 225 #[.string t] w fun e w' => e = .returned (.tuple #[.int .i64 (Cal.numR l), .bool b]) ∧ w = w' := by
  subst hl hd
  exact number_any t w hn
theorem number_yes (t : ByteArray) (l : List UInt8) (w : World) (hl : t.data.toList = l) (hn : l.length ≤ 10) (hd : Cal.digs l = true) :
    Calls Tryz.prog 225 #[.string t] w fun e w' => e = .returned (.tuple #[.int .i64 (Cal.numV l), .bool true]) ∧ w = w' := by
  rw [← Cal.numR_yes hd]
  exact number_at t l true w hl hn hd
theorem len_take (l : List UInt8) (k : Nat) (h : k ≤ 10) : (l.take k).length ≤ 10 := Nat.le_trans (List.length_take_le _ _) h
theorem len_drop (l : List UInt8) (k : Nat) (h : l.length ≤ 10) : (l.drop k).length ≤ 10 := by rw [List.length_drop]; omega
theorem ext_take (s : ByteArray) (b : Nat) : (s.extract 0 b).data.toList = s.data.toList.take b := by
  rw [Lib.extract_data]; simp
theorem ext_mid (s : ByteArray) (a b : Nat) : (s.extract a b).data.toList = (s.data.toList.drop a).take (b - a) := by
  rw [Lib.extract_data]
theorem at_of (s : ByteArray) (k : Nat) (c : UInt8) (hk : k < s.size) (h : s.data.toList[k]? = some c) : (s[k] : UInt8) = c := by
  rw [List.getElem?_eq_getElem (by simpa using hk)] at h
  have := Option.some.inj h
  rw [← this]; rfl
theorem at_no (s : ByteArray) (k : Nat) (c : UInt8) (hk : k < s.size) (h : ¬ s.data.toList[k]? = some c) : ¬ (s[k] : UInt8) = c := by
  intro e; apply h
  rw [List.getElem?_eq_getElem (by simpa using hk), ← e]; rfl

set_option maxHeartbeats 1000000 in
theorem read_ok (s : ByteArray) (w : World) (h : Cal.shapeB s.data.toList = true) (ho : Cal.Ok (Cal.yOf s.data.toList) (Cal.mOf s.data.toList) (Cal.dOf s.data.toList)) :
    Calls Tryz.prog 164 #[.string s] w fun e w' => e = .returned (.tuple #[.int .i64 (Cal.num (Cal.yOf s.data.toList) (Cal.mOf s.data.toList) (Cal.dOf s.data.toList)), .nilIface]) ∧ w = w' := by
  unfold Cal.shapeB at h
  simp only [Bool.and_eq_true, decide_eq_true_eq] at h
  obtain ⟨⟨⟨⟨⟨h0, h4⟩, h7⟩, a⟩, b⟩, c⟩ := h
  have hz : s.size = 10 := h0
  have q4 : 4 < s.size := by omega
  have q7 : 7 < s.size := by omega
  have c4 := at_of s 4 45 q4 h4
  have c7 := at_of s 7 45 q7 h7
  have n4 : ((s[4].toNat : Int) != 45) = false := by rw [c4]; rfl
  have n7 : ((s[7].toNat : Int) != 45) = false := by rw [c7]; rfl
  have z1 : 4 ≤ s.size := by omega
  have z2 : s.size ≤ 10 := by omega
  have z3 : ((s.size : Int) != 10) = false := by rw [hz]; rfl
  have HZ := Lib.hid hz
  clear h0 h4 h7 c4 c7 hz
  have E1 := Lib.hid (ext_take s 4)
  have E2 := Lib.hid (ext_mid s 5 7)
  have E3 : Hid ((s.extract 8 s.size).data.toList = s.data.toList.drop 8) := by
    rw [ext_mid]; exact List.take_of_length_le (by rw [List.length_drop]; exact Nat.le_refl _)
  have L : s.data.toList.length ≤ 10 := z2
  have A := Lib.hid a
  have B := Lib.hid b
  have C := Lib.hid c
  clear a b c
  go_enter Tryz.func164, Tryz.ntmps164
  go_wp2_with fail
  refine (number_yes _ _ _ E1.out (len_take _ _ (by decide)) A.out).mono ?_; rintro e w' ⟨rfl, rfl⟩
  go_wp2_with fail
  refine (number_yes _ _ _ E2.out (len_take _ _ (by decide)) B.out).mono ?_; rintro e w' ⟨rfl, rfl⟩
  go_wp2_with fail
  refine (number_yes _ _ _ E3.out (len_drop _ _ L) C.out).mono ?_; rintro e w' ⟨rfl, rfl⟩
  go_wp2_with fail
  refine (make_ok _ _ _ _ ho).mono ?_; rintro e w' ⟨rfl, rfl⟩
  go_wp2
  go_ret2
  exact ⟨rfl, rfl⟩

set_option maxHeartbeats 1000000 in
theorem read_bound (s : ByteArray) (ad : Addr) (w : World) (h : Cal.shapeB s.data.toList = true) (ho : ¬ Cal.Ok (Cal.yOf s.data.toList) (Cal.mOf s.data.toList) (Cal.dOf s.data.toList))
    (hc : w.cell? ⟨3, 0, none⟩ = some (.iface 339 (.pointer (some ad)))) :
    Calls Tryz.prog 164 #[.string s] w fun e w' => e = .returned (.tuple #[.int .i64 0, .iface 339 (.pointer (some ad))]) ∧ ∃ k, w' = w.drewN k := by
  unfold Cal.shapeB at h
  simp only [Bool.and_eq_true, decide_eq_true_eq] at h
  obtain ⟨⟨⟨⟨⟨h0, h4⟩, h7⟩, a⟩, b⟩, c⟩ := h
  have hz : s.size = 10 := h0
  have q4 : 4 < s.size := by omega
  have q7 : 7 < s.size := by omega
  have c4 := at_of s 4 45 q4 h4
  have c7 := at_of s 7 45 q7 h7
  have n4 : ((s[4].toNat : Int) != 45) = false := by rw [c4]; rfl
  have n7 : ((s[7].toNat : Int) != 45) = false := by rw [c7]; rfl
  have z1 : 4 ≤ s.size := by omega
  have z2 : s.size ≤ 10 := by omega
  have z3 : ((s.size : Int) != 10) = false := by rw [hz]; rfl
  have HZ := Lib.hid hz
  clear h0 h4 h7 c4 c7 hz
  have E1 := Lib.hid (ext_take s 4)
  have E2 := Lib.hid (ext_mid s 5 7)
  have E3 : Hid ((s.extract 8 s.size).data.toList = s.data.toList.drop 8) := by
    rw [ext_mid]; exact List.take_of_length_le (by rw [List.length_drop]; exact Nat.le_refl _)
  have L : s.data.toList.length ≤ 10 := z2
  have A := Lib.hid a
  have B := Lib.hid b
  have C := Lib.hid c
  clear a b c
  go_enter Tryz.func164, Tryz.ntmps164
  go_wp2_with fail
  refine (number_yes _ _ _ E1.out (len_take _ _ (by decide)) A.out).mono ?_; rintro e w' ⟨rfl, rfl⟩
  go_wp2_with fail
  refine (number_yes _ _ _ E2.out (len_take _ _ (by decide)) B.out).mono ?_; rintro e w' ⟨rfl, rfl⟩
  go_wp2_with fail
  refine (number_yes _ _ _ E3.out (len_drop _ _ L) C.out).mono ?_; rintro e w' ⟨rfl, rfl⟩
  go_wp2_with fail
  refine (make_err _ _ _ ad _ ho hc).mono ?_; rintro e w' ⟨rfl, k, rfl⟩
  go_wp2
  go_ret2
  exact ⟨rfl, _, rfl⟩

/- where the text has not a date's length and signs -/
set_option maxHeartbeats 1000000 in
theorem read_signs (s : ByteArray) (ad : Addr) (w : World) (h : s.size ≠ 10 ∨ (s.size = 10 ∧ ¬ s.data.toList[4]? = some 45) ∨ (s.size = 10 ∧ s.data.toList[4]? = some 45 ∧ ¬ s.data.toList[7]? = some 45))
    (hc : w.cell? ⟨2, 0, none⟩ = some (.iface 339 (.pointer (some ad)))) :
    Calls Tryz.prog 164 #[.string s] w fun e w' => e = .returned (.tuple #[.int .i64 0, .iface 339 (.pointer (some ad))]) ∧ ∃ k, w' = w.drewN k := by
  rcases h with h | ⟨hz, h4⟩ | ⟨hz, h4, h7⟩
  · have z3 : ((s.size : Int) != 10) = true := by rw [bne_iff_ne]; omega
    clear h
    go_enter Tryz.func164, Tryz.ntmps164
    go_wp2_with fail
    go_quiet (fail)
    go_wp2
    go_ret2
    exact ⟨rfl, _, rfl⟩
  · have q4 : 4 < s.size := by omega
    have c4 := at_no s 4 45 q4 h4
    have n4 : ((s[4].toNat : Int) != 45) = true := by
      rw [bne_iff_ne]; intro e; apply c4; apply UInt8.toNat.inj; exact Int.ofNat.inj e
    have z3 : ((s.size : Int) != 10) = false := by rw [hz]; rfl
    clear hz h4 c4
    go_enter Tryz.func164, Tryz.ntmps164
    go_wp2_with fail
    go_quiet (fail)
    go_wp2
    go_ret2
    exact ⟨rfl, _, rfl⟩
  · have q4 : 4 < s.size := by omega
    have q7 : 7 < s.size := by omega
    have c4 := at_of s 4 45 q4 h4
    have n4 : ((s[4].toNat : Int) != 45) = false := by rw [c4]; rfl
    have c7 := at_no s 7 45 q7 h7
    have n7 : ((s[7].toNat : Int) != 45) = true := by
      rw [bne_iff_ne]; intro e; apply c7; apply UInt8.toNat.inj; exact Int.ofNat.inj e
    have z3 : ((s.size : Int) != 10) = false := by rw [hz]; rfl
    clear hz h4 h7 c4 c7
    go_enter Tryz.func164, Tryz.ntmps164
    go_wp2_with fail
    go_quiet (fail)
    go_wp2
    go_ret2
    exact ⟨rfl, _, rfl⟩

/- where one of the three parts is no number -/
set_option maxHeartbeats 1000000 in
theorem read_digits (s : ByteArray) (ad : Addr) (w : World) (hz : s.size = 10) (h4 : s.data.toList[4]? = some 45) (h7 : s.data.toList[7]? = some 45)
    (hd : (Cal.digs (s.data.toList.take 4) && Cal.digs ((s.data.toList.drop 5).take 2) && Cal.digs (s.data.toList.drop 8)) = false)
    (hc : w.cell? ⟨2, 0, none⟩ = some (.iface 339 (.pointer (some ad)))) :
    Calls Tryz.prog 164 #[.string s] w fun e w' => e = .returned (.tuple #[.int .i64 0, .iface 339 (.pointer (some ad))]) ∧ ∃ k, w' = w.drewN k := by
  have q4 : 4 < s.size := by omega
  have q7 : 7 < s.size := by omega
  have c4 := at_of s 4 45 q4 h4
  have c7 := at_of s 7 45 q7 h7
  have n4 : ((s[4].toNat : Int) != 45) = false := by rw [c4]; rfl
  have n7 : ((s[7].toNat : Int) != 45) = false := by rw [c7]; rfl
  have z1 : 4 ≤ s.size := by omega
  have z2 : s.size ≤ 10 := by omega
  have z3 : ((s.size : Int) != 10) = false := by rw [hz]; rfl
  clear h4 h7 c4 c7 hz
  have E1 := Lib.hid (ext_take s 4)
  have E2 := Lib.hid (ext_mid s 5 7)
  have E3 : Hid ((s.extract 8 s.size).data.toList = s.data.toList.drop 8) := by
    rw [ext_mid]; exact List.take_of_length_le (by rw [List.length_drop]; exact Nat.le_refl _)
  have L : s.data.toList.length ≤ 10 := z2
  obtain ⟨a, A⟩ : ∃ a, Cal.digs (s.data.toList.take 4) = a := ⟨_, rfl⟩
  obtain ⟨b, B⟩ : ∃ b, Cal.digs ((s.data.toList.drop 5).take 2) = b := ⟨_, rfl⟩
  obtain ⟨c, C⟩ : ∃ c, Cal.digs (s.data.toList.drop 8) = c := ⟨_, rfl⟩
  rw [A, B, C] at hd
  have A' := Lib.hid A
  have B' := Lib.hid B
  have C' := Lib.hid C
  clear A B C
  have hcase : a = false ∨ (a = true ∧ b = false) ∨ (a = true ∧ b = true ∧ c = false) := by
    cases a <;> cases b <;> cases c <;> simp_all
  clear hd
  rcases hcase with rfl | ⟨rfl, rfl⟩ | ⟨rfl, rfl, rfl⟩
  all_goals
    go_enter Tryz.func164, Tryz.ntmps164
    go_wp2_with fail
    refine (number_at _ _ _ _ E1.out (len_take _ _ (by decide)) A'.out).mono ?_; rintro e w' ⟨rfl, rfl⟩
    go_wp2_with fail
    refine (number_at _ _ _ _ E2.out (len_take _ _ (by decide)) B'.out).mono ?_; rintro e w' ⟨rfl, rfl⟩
    go_wp2_with fail
    refine (number_at _ _ _ _ E3.out (len_drop _ _ L) C'.out).mono ?_; rintro e w' ⟨rfl, rfl⟩
    go_wp2_with fail
    go_quiet (fail)
    go_wp2
    go_ret2
    exact ⟨rfl, _, rfl⟩

theorem read_text (s : ByteArray) (ad : Addr) (w : World) (h : Cal.shapeB s.data.toList = false)
    (hc : w.cell? ⟨2, 0, none⟩ = some (.iface 339 (.pointer (some ad)))) :
    Calls Tryz.prog 164 #[.string s] w fun e w' => e = .returned (.tuple #[.int .i64 0, .iface 339 (.pointer (some ad))]) ∧ ∃ k, w' = w.drewN k := by
  by_cases h0 : s.size = 10
  · by_cases h4 : s.data.toList[4]? = some 45
    · by_cases h7 : s.data.toList[7]? = some 45
      · refine read_digits s ad w h0 h4 h7 ?_ hc
        unfold Cal.shapeB at h
        have h0' : s.data.toList.length = 10 := h0
        rw [decide_eq_true h0', decide_eq_true h4, decide_eq_true h7] at h
        simpa using h
      · exact read_signs s ad w (Or.inr (Or.inr ⟨h0, h4, h7⟩)) hc
    · exact read_signs s ad w (Or.inr (Or.inl ⟨h0, h4⟩)) hc
  · exact read_signs s ad w (Or.inl h0) hc
end Day
end Go.Proofs.YtkhkhbeolhhomaaGreatDoor
