/- The walk of the law DayBack. -/
import Derived.Test.YtkgmojaecaghmaaDoorDayMonths
namespace Go.Proofs.YtkgmojaecaghmaaDoor
open Go.RowKit Lmd
namespace Day

theorem text_at' (n y m d : Int) (w : World) (h : Cal.At n y m d) (htab : Lib.TabIs Tryd.prog w "internal/strconv.uint64pow10" .u64 Lib.pow10Tab) :
    Calls Tryd.prog 28 #[.int .i64 n] w fun e w' => e = .returned (.string ⟨(Cal.text y m d).toArray⟩) ∧ Below w.heap.size w w' := text_at n y m d w h htab
/-- a day's text is read as it -/
theorem read_back (n y m d : Int) (w : World) (h : Cal.At n y m d) :
    Calls Tryd.prog 29 #[.string ⟨(Cal.text y m d).toArray⟩] w fun e w' => e = .returned (.tuple #[.int .i64 n, .nilIface]) ∧ w = w' := by
  obtain ⟨a1, a2, a3, a4, a5, a6⟩ := Cal.ok_range h.1
  obtain ⟨s1, s2, s3, s4⟩ := Cal.text_shape y m d (by omega) (by omega) (by omega) (by omega) (by omega) (by omega)
  have e0 : (⟨(Cal.text y m d).toArray⟩ : ByteArray).data.toList = Cal.text y m d := rfl
  refine (read_ok ⟨(Cal.text y m d).toArray⟩ w (by rw [e0]; exact s1) (by rw [e0, s2, s3, s4]; exact h.1)).mono ?_
  rw [e0, s2, s3, s4, h.2]
  exact fun _ _ h => h
theorem make_at (n y m d : Int) (w : World) (h : Cal.At n y m d) :
    Calls Tryd.prog 26 #[.int .i64 y, .int .i64 m, .int .i64 d] w fun e w' => e = .returned (.tuple #[.int .i64 n, .nilIface]) ∧ w = w' := by
  have := make_ok y m d w h.1
  rw [h.2] at this
  exact this
/-- a year later, and back -/
theorem year_later (n y m d : Int) (h : Cal.At n y m d) (hd : d ≤ Cal.mon (y + 1) m) : Cal.At (Cal.num (y + 1) m d) (y + 1) m d ∧ 2000 + Cal.kth y m 12 / 12 = y + 1 ∧ Cal.kth y m 12 % 12 + 1 = m ∧ 0 ≤ Cal.kth y m 12 ∧
    2000 + Cal.kth (y + 1) m (-12) / 12 = y ∧ Cal.kth (y + 1) m (-12) % 12 + 1 = m ∧ 0 ≤ Cal.kth (y + 1) m (-12) := by
  obtain ⟨a1, a2, a3, a4, a5, a6⟩ := Cal.ok_range h.1
  refine ⟨⟨⟨a5, hd⟩, rfl⟩, ?_⟩
  unfold Cal.kth; omega
theorem add_year (n y m d : Int) (w : World) (h : Cal.At n y m d) (hd : d ≤ Cal.mon (y + 1) m) :
    Calls Tryd.prog 24 #[.int .i64 n, .int .i64 12] w fun e w' => e = .returned (.tuple #[.int .i64 (Cal.num (y + 1) m d), .bool true]) ∧ ∃ k, w' = w.drewN k := by
  obtain ⟨b1, b2, b3, b4, _⟩ := year_later n y m d h hd
  have := add_yes n y m d 12 w h (by omega) (by omega) b4 (by rw [b2, b3]; exact b1.1)
  rw [b2, b3] at this
  exact this
theorem add_back (n y m d : Int) (w : World) (h : Cal.At n y m d) (hd : d ≤ Cal.mon (y + 1) m) :
    Calls Tryd.prog 24 #[.int .i64 (Cal.num (y + 1) m d), .int .i64 (-12)] w fun e w' => e = .returned (.tuple #[.int .i64 n, .bool true]) ∧ ∃ k, w' = w.drewN k := by
  obtain ⟨b1, _, _, _, b5, b6, b7⟩ := year_later n y m d h hd
  have := add_yes (Cal.num (y + 1) m d) (y + 1) m d (-12) w b1 (by omega) (by omega) b7 (by rw [b5, b6]; exact h.1)
  rw [b5, b6, h.2] at this
  exact this
theorem add_year_no (n y m d : Int) (aB : Addr) (w : World) (h : Cal.At n y m d) (hd : ¬ d ≤ Cal.mon (y + 1) m) (hc : w.cell? ⟨1, 0, none⟩ = some (.iface 80 (.pointer (some aB)))) :
    Calls Tryd.prog 24 #[.int .i64 n, .int .i64 12] w fun e w' => e = .returned (.tuple #[.int .i64 0, .bool false]) ∧ ∃ k, w' = w.drewN k := by
  obtain ⟨a1, a2, a3, a4, a5, a6⟩ := Cal.ok_range h.1
  refine add_none n y m d 12 aB w h (by omega) (by omega) ?_ hc
  have e1 : 2000 + Cal.kth y m 12 / 12 = y + 1 ∧ Cal.kth y m 12 % 12 + 1 = m := by unfold Cal.kth; omega
  unfold Cal.addB
  rw [e1.1, e1.2, Cal.okB_false (fun ho => hd ho.2), Bool.and_false]

set_option maxRecDepth 100000 in
set_option maxHeartbeats 1000000 in
theorem back_off (n : Int) (aB : Addr) (w : World) (htab : Lib.TabIs Tryd.prog w "internal/strconv.uint64pow10" .u64 Lib.pow10Tab)
    (hc : w.cell? ⟨1, 0, none⟩ = some (.iface 80 (.pointer (some aB)))) (hn : ¬ (0 ≤ n ∧ n ≤ 73048)) :
    Calls Tryd.prog 7 #[.int .i64 n] w fun e w' => e = .returned (.bool true) ∧ Below w.heap.size w w' := by
  go_enter Tryd.func7, Tryd.ntmps7
  go_wp2_with fail
  refine (dated_any _ htab).mono ?_; rintro e w' ⟨rfl, hb⟩
  have hc1 := cell_later hb hc
  go_wp2_with fail
  refine (date_no n aB _ hn (by exact hc1)).mono ?_; rintro e w2 ⟨rfl, k, rfl⟩
  go_wp2_with fail
  refine (text_no n aB _ hn (by exact hc1)).mono ?_; rintro e w2 ⟨rfl, k2, rfl⟩
  go_wp2
  go_ret
  exact ⟨rfl, below_draw hb _⟩

set_option maxRecDepth 100000 in
set_option maxHeartbeats 2000000 in
theorem back_yes_last (n y m d : Int) (aB : Addr) (w : World) (htab : Lib.TabIs Tryd.prog w "internal/strconv.uint64pow10" .u64 Lib.pow10Tab)
    (hc : w.cell? ⟨1, 0, none⟩ = some (.iface 80 (.pointer (some aB)))) (hn : Cal.At n y m d) (hd : d ≤ Cal.mon (y + 1) m) (hx : n = 73048) :
    Calls Tryd.prog 7 #[.int .i64 n] w fun e w' => e = .returned (.bool true) ∧ Below w.heap.size w w' := by
  obtain ⟨a1, a2, a3, a4, a5, a6⟩ := Cal.ok_range hn.1
  have hm : d ≤ Cal.mon y m := hn.1.2
  have nb := Cal.at_bd hn
  have hl := (year_later n y m d hn hd).1
  have x1 : (n == 73048) = true := by rw [beq_iff_eq]; exact hx
  have x2 : ¬ (0 ≤ n + 1 ∧ n + 1 ≤ 73048) := by omega
  clear hx
  go_enter Tryd.func7, Tryd.ntmps7
  go_wp2_with fail
  refine (dated_any _ htab).mono ?_; rintro e w' ⟨rfl, hb⟩
  have hc1 := cell_later hb hc
  have htab1 := Frame.tab_below (n := "internal/strconv.uint64pow10") (g := 12) (by kernel_rfl) hb htab
  go_wp2_with fail
  refine (date_at n y m d _ hn).mono ?_; rintro e w2 ⟨rfl, rfl⟩
  go_wp2_with fail
  refine (make_at n y m d _ hn).mono ?_; rintro e w2 ⟨rfl, rfl⟩
  go_wp2_with fail
  refine (text_at n y m d _ hn htab1).mono ?_; rintro e w2 ⟨rfl, hb2⟩
  have hc2 := cell_later hb2 hc1
  have hb3 := hb.trans (hb2.mono hb.size)
  clear hb hb2 hc1 htab1 hc
  go_wp2_with fail
  refine (read_back n y m d _ hn).mono ?_; rintro e w2 ⟨rfl, rfl⟩
  go_wp2_with (go_at_call 27; refine (months_any _ _ _).mono ?_; rintro e w2 ⟨rfl, rfl⟩)
  refine (add_year n y m d _ hn hd).mono ?_; rintro e w2 ⟨rfl, k, rfl⟩
  go_wp2_with (go_at_call 27; refine (months_any _ _ _).mono ?_; rintro e w2 ⟨rfl, rfl⟩)
  refine (date_at _ (y + 1) m d _ hl).mono ?_; rintro e w2 ⟨rfl, rfl⟩
  go_wp2_with fail
  refine (add_back n y m d _ hn hd).mono ?_; rintro e w2 ⟨rfl, k2, rfl⟩
  go_wp2_with fail
  refine (date_no (n + 1) aB _ x2 (by exact hc2)).mono ?_; rintro e w2 ⟨rfl, k3, rfl⟩
  go_wp2
  go_ret
  exact ⟨rfl, below_draw hb3 _⟩

set_option maxRecDepth 100000 in
set_option maxHeartbeats 2000000 in
theorem back_yes_day (n y m d : Int) (aB : Addr) (w : World) (htab : Lib.TabIs Tryd.prog w "internal/strconv.uint64pow10" .u64 Lib.pow10Tab)
    (hc : w.cell? ⟨1, 0, none⟩ = some (.iface 80 (.pointer (some aB)))) (hn : Cal.At n y m d) (hd : d ≤ Cal.mon (y + 1) m) (hx : n < 73048) (hx2 : d < Cal.mon y m) (ha : Cal.At (n + 1) y m (d + 1)) :
    Calls Tryd.prog 7 #[.int .i64 n] w fun e w' => e = .returned (.bool true) ∧ Below w.heap.size w w' := by
  obtain ⟨a1, a2, a3, a4, a5, a6⟩ := Cal.ok_range hn.1
  have hm : d ≤ Cal.mon y m := hn.1.2
  have nb := Cal.at_bd hn
  have hl := (year_later n y m d hn hd).1
  have x1 : (n == 73048) = false := by rw [beq_eq_false_iff_ne]; omega
  have x2 : (d == Cal.mon y m) = false := by rw [beq_eq_false_iff_ne]; omega
  go_enter Tryd.func7, Tryd.ntmps7
  go_wp2_with fail
  refine (dated_any _ htab).mono ?_; rintro e w' ⟨rfl, hb⟩
  have hc1 := cell_later hb hc
  have htab1 := Frame.tab_below (n := "internal/strconv.uint64pow10") (g := 12) (by kernel_rfl) hb htab
  go_wp2_with fail
  refine (date_at n y m d _ hn).mono ?_; rintro e w2 ⟨rfl, rfl⟩
  go_wp2_with fail
  refine (make_at n y m d _ hn).mono ?_; rintro e w2 ⟨rfl, rfl⟩
  go_wp2_with fail
  refine (text_at n y m d _ hn htab1).mono ?_; rintro e w2 ⟨rfl, hb2⟩
  have hc2 := cell_later hb2 hc1
  have hb3 := hb.trans (hb2.mono hb.size)
  clear hb hb2 hc1 htab1 hc
  go_wp2_with fail
  refine (read_back n y m d _ hn).mono ?_; rintro e w2 ⟨rfl, rfl⟩
  go_wp2_with (go_at_call 27; refine (months_any _ _ _).mono ?_; rintro e w2 ⟨rfl, rfl⟩)
  refine (add_year n y m d _ hn hd).mono ?_; rintro e w2 ⟨rfl, k, rfl⟩
  go_wp2_with (go_at_call 27; refine (months_any _ _ _).mono ?_; rintro e w2 ⟨rfl, rfl⟩)
  refine (date_at _ (y + 1) m d _ hl).mono ?_; rintro e w2 ⟨rfl, rfl⟩
  go_wp2_with fail
  refine (add_back n y m d _ hn hd).mono ?_; rintro e w2 ⟨rfl, k2, rfl⟩
  go_wp2_with fail
  refine (date_at (n + 1) _ _ _ _ ha).mono ?_; rintro e w2 ⟨rfl, rfl⟩
  go_wp2_with (go_at_call 27; refine (months_any _ _ _).mono ?_; rintro e w2 ⟨rfl, rfl⟩)
  refine (week_yes n _ nb.1 nb.2).mono ?_; rintro e w2 ⟨rfl, rfl⟩
  go_wp2_with fail
  refine (week_yes (n + 1) _ (by omega) (by omega)).mono ?_; rintro e w2 ⟨rfl, rfl⟩
  go_wp2
  go_ret
  exact ⟨ret_bool (by rw [beq_iff_eq]; omega), below_draw hb3 _⟩

set_option maxRecDepth 100000 in
set_option maxHeartbeats 2000000 in
theorem back_yes_month (n y m d : Int) (aB : Addr) (w : World) (htab : Lib.TabIs Tryd.prog w "internal/strconv.uint64pow10" .u64 Lib.pow10Tab)
    (hc : w.cell? ⟨1, 0, none⟩ = some (.iface 80 (.pointer (some aB)))) (hn : Cal.At n y m d) (hd : d ≤ Cal.mon (y + 1) m) (hx : n < 73048) (hx2 : d = Cal.mon y m) (hx3 : m < 12) (ha : Cal.At (n + 1) y (m + 1) 1) :
    Calls Tryd.prog 7 #[.int .i64 n] w fun e w' => e = .returned (.bool true) ∧ Below w.heap.size w w' := by
  obtain ⟨a1, a2, a3, a4, a5, a6⟩ := Cal.ok_range hn.1
  have hm : d ≤ Cal.mon y m := hn.1.2
  have nb := Cal.at_bd hn
  have hl := (year_later n y m d hn hd).1
  have x1 : (n == 73048) = false := by rw [beq_eq_false_iff_ne]; omega
  have x2 : (d == Cal.mon y m) = true := by rw [beq_iff_eq]; exact hx2
  have x3 : (m == 12) = false := by rw [beq_eq_false_iff_ne]; omega
  clear hx2
  go_enter Tryd.func7, Tryd.ntmps7
  go_wp2_with fail
  refine (dated_any _ htab).mono ?_; rintro e w' ⟨rfl, hb⟩
  have hc1 := cell_later hb hc
  have htab1 := Frame.tab_below (n := "internal/strconv.uint64pow10") (g := 12) (by kernel_rfl) hb htab
  go_wp2_with fail
  refine (date_at n y m d _ hn).mono ?_; rintro e w2 ⟨rfl, rfl⟩
  go_wp2_with fail
  refine (make_at n y m d _ hn).mono ?_; rintro e w2 ⟨rfl, rfl⟩
  go_wp2_with fail
  refine (text_at n y m d _ hn htab1).mono ?_; rintro e w2 ⟨rfl, hb2⟩
  have hc2 := cell_later hb2 hc1
  have hb3 := hb.trans (hb2.mono hb.size)
  clear hb hb2 hc1 htab1 hc
  go_wp2_with fail
  refine (read_back n y m d _ hn).mono ?_; rintro e w2 ⟨rfl, rfl⟩
  go_wp2_with (go_at_call 27; refine (months_any _ _ _).mono ?_; rintro e w2 ⟨rfl, rfl⟩)
  refine (add_year n y m d _ hn hd).mono ?_; rintro e w2 ⟨rfl, k, rfl⟩
  go_wp2_with (go_at_call 27; refine (months_any _ _ _).mono ?_; rintro e w2 ⟨rfl, rfl⟩)
  refine (date_at _ (y + 1) m d _ hl).mono ?_; rintro e w2 ⟨rfl, rfl⟩
  go_wp2_with fail
  refine (add_back n y m d _ hn hd).mono ?_; rintro e w2 ⟨rfl, k2, rfl⟩
  go_wp2_with fail
  refine (date_at (n + 1) _ _ _ _ ha).mono ?_; rintro e w2 ⟨rfl, rfl⟩
  go_wp2_with (go_at_call 27; refine (months_any _ _ _).mono ?_; rintro e w2 ⟨rfl, rfl⟩)
  refine (week_yes n _ nb.1 nb.2).mono ?_; rintro e w2 ⟨rfl, rfl⟩
  go_wp2_with fail
  refine (week_yes (n + 1) _ (by omega) (by omega)).mono ?_; rintro e w2 ⟨rfl, rfl⟩
  go_wp2
  go_ret
  exact ⟨ret_bool (by rw [beq_iff_eq]; omega), below_draw hb3 _⟩

set_option maxRecDepth 100000 in
set_option maxHeartbeats 2000000 in
theorem back_yes_year (n y m d : Int) (aB : Addr) (w : World) (htab : Lib.TabIs Tryd.prog w "internal/strconv.uint64pow10" .u64 Lib.pow10Tab)
    (hc : w.cell? ⟨1, 0, none⟩ = some (.iface 80 (.pointer (some aB)))) (hn : Cal.At n y m d) (hd : d ≤ Cal.mon (y + 1) m) (hx : n < 73048) (hx2 : d = Cal.mon y m) (hx3 : m = 12) (ha : Cal.At (n + 1) (y + 1) 1 1) :
    Calls Tryd.prog 7 #[.int .i64 n] w fun e w' => e = .returned (.bool true) ∧ Below w.heap.size w w' := by
  obtain ⟨a1, a2, a3, a4, a5, a6⟩ := Cal.ok_range hn.1
  have hm : d ≤ Cal.mon y m := hn.1.2
  have nb := Cal.at_bd hn
  have hl := (year_later n y m d hn hd).1
  have x1 : (n == 73048) = false := by rw [beq_eq_false_iff_ne]; omega
  have x2 : (d == Cal.mon y m) = true := by rw [beq_iff_eq]; exact hx2
  have x3 : (m == 12) = true := by rw [beq_iff_eq]; exact hx3
  clear hx2 hx3
  go_enter Tryd.func7, Tryd.ntmps7
  go_wp2_with fail
  refine (dated_any _ htab).mono ?_; rintro e w' ⟨rfl, hb⟩
  have hc1 := cell_later hb hc
  have htab1 := Frame.tab_below (n := "internal/strconv.uint64pow10") (g := 12) (by kernel_rfl) hb htab
  go_wp2_with fail
  refine (date_at n y m d _ hn).mono ?_; rintro e w2 ⟨rfl, rfl⟩
  go_wp2_with fail
  refine (make_at n y m d _ hn).mono ?_; rintro e w2 ⟨rfl, rfl⟩
  go_wp2_with fail
  refine (text_at n y m d _ hn htab1).mono ?_; rintro e w2 ⟨rfl, hb2⟩
  have hc2 := cell_later hb2 hc1
  have hb3 := hb.trans (hb2.mono hb.size)
  clear hb hb2 hc1 htab1 hc
  go_wp2_with fail
  refine (read_back n y m d _ hn).mono ?_; rintro e w2 ⟨rfl, rfl⟩
  go_wp2_with (go_at_call 27; refine (months_any _ _ _).mono ?_; rintro e w2 ⟨rfl, rfl⟩)
  refine (add_year n y m d _ hn hd).mono ?_; rintro e w2 ⟨rfl, k, rfl⟩
  go_wp2_with (go_at_call 27; refine (months_any _ _ _).mono ?_; rintro e w2 ⟨rfl, rfl⟩)
  refine (date_at _ (y + 1) m d _ hl).mono ?_; rintro e w2 ⟨rfl, rfl⟩
  go_wp2_with fail
  refine (add_back n y m d _ hn hd).mono ?_; rintro e w2 ⟨rfl, k2, rfl⟩
  go_wp2_with fail
  refine (date_at (n + 1) _ _ _ _ ha).mono ?_; rintro e w2 ⟨rfl, rfl⟩
  go_wp2_with (go_at_call 27; refine (months_any _ _ _).mono ?_; rintro e w2 ⟨rfl, rfl⟩)
  refine (week_yes n _ nb.1 nb.2).mono ?_; rintro e w2 ⟨rfl, rfl⟩
  go_wp2_with fail
  refine (week_yes (n + 1) _ (by omega) (by omega)).mono ?_; rintro e w2 ⟨rfl, rfl⟩
  go_wp2
  go_ret
  exact ⟨ret_bool (by rw [beq_iff_eq]; omega), below_draw hb3 _⟩

set_option maxRecDepth 100000 in
set_option maxHeartbeats 2000000 in
theorem back_no_last (n y m d : Int) (aB : Addr) (w : World) (htab : Lib.TabIs Tryd.prog w "internal/strconv.uint64pow10" .u64 Lib.pow10Tab)
    (hc : w.cell? ⟨1, 0, none⟩ = some (.iface 80 (.pointer (some aB)))) (hn : Cal.At n y m d) (hd : ¬ d ≤ Cal.mon (y + 1) m) (hx : n = 73048) :
    Calls Tryd.prog 7 #[.int .i64 n] w fun e w' => e = .returned (.bool true) ∧ Below w.heap.size w w' := by
  obtain ⟨a1, a2, a3, a4, a5, a6⟩ := Cal.ok_range hn.1
  have hm : d ≤ Cal.mon y m := hn.1.2
  have nb := Cal.at_bd hn
  have hd' : Cal.mon (y + 1) m < d := by omega
  have x1 : (n == 73048) = true := by rw [beq_iff_eq]; exact hx
  have x2 : ¬ (0 ≤ n + 1 ∧ n + 1 ≤ 73048) := by omega
  clear hx
  go_enter Tryd.func7, Tryd.ntmps7
  go_wp2_with fail
  refine (dated_any _ htab).mono ?_; rintro e w' ⟨rfl, hb⟩
  have hc1 := cell_later hb hc
  have htab1 := Frame.tab_below (n := "internal/strconv.uint64pow10") (g := 12) (by kernel_rfl) hb htab
  go_wp2_with fail
  refine (date_at n y m d _ hn).mono ?_; rintro e w2 ⟨rfl, rfl⟩
  go_wp2_with fail
  refine (make_at n y m d _ hn).mono ?_; rintro e w2 ⟨rfl, rfl⟩
  go_wp2_with fail
  refine (text_at n y m d _ hn htab1).mono ?_; rintro e w2 ⟨rfl, hb2⟩
  have hc2 := cell_later hb2 hc1
  have hb3 := hb.trans (hb2.mono hb.size)
  clear hb hb2 hc1 htab1 hc
  go_wp2_with fail
  refine (read_back n y m d _ hn).mono ?_; rintro e w2 ⟨rfl, rfl⟩
  go_wp2_with (go_at_call 27; refine (months_any _ _ _).mono ?_; rintro e w2 ⟨rfl, rfl⟩)
  refine (add_year_no n y m d aB _ hn (by omega) (by exact hc2)).mono ?_; rintro e w2 ⟨rfl, k, rfl⟩
  go_wp2_with (go_at_call 27; refine (months_any _ _ _).mono ?_; rintro e w2 ⟨rfl, rfl⟩)
  refine (date_no (n + 1) aB _ x2 (by exact hc2)).mono ?_; rintro e w2 ⟨rfl, k3, rfl⟩
  go_wp2
  go_ret
  exact ⟨rfl, below_draw hb3 _⟩

set_option maxRecDepth 100000 in
set_option maxHeartbeats 2000000 in
theorem back_no_day (n y m d : Int) (aB : Addr) (w : World) (htab : Lib.TabIs Tryd.prog w "internal/strconv.uint64pow10" .u64 Lib.pow10Tab)
    (hc : w.cell? ⟨1, 0, none⟩ = some (.iface 80 (.pointer (some aB)))) (hn : Cal.At n y m d) (hd : ¬ d ≤ Cal.mon (y + 1) m) (hx : n < 73048) (hx2 : d < Cal.mon y m) (ha : Cal.At (n + 1) y m (d + 1)) :
    Calls Tryd.prog 7 #[.int .i64 n] w fun e w' => e = .returned (.bool true) ∧ Below w.heap.size w w' := by
  obtain ⟨a1, a2, a3, a4, a5, a6⟩ := Cal.ok_range hn.1
  have hm : d ≤ Cal.mon y m := hn.1.2
  have nb := Cal.at_bd hn
  have hd' : Cal.mon (y + 1) m < d := by omega
  have x1 : (n == 73048) = false := by rw [beq_eq_false_iff_ne]; omega
  have x2 : (d == Cal.mon y m) = false := by rw [beq_eq_false_iff_ne]; omega
  go_enter Tryd.func7, Tryd.ntmps7
  go_wp2_with fail
  refine (dated_any _ htab).mono ?_; rintro e w' ⟨rfl, hb⟩
  have hc1 := cell_later hb hc
  have htab1 := Frame.tab_below (n := "internal/strconv.uint64pow10") (g := 12) (by kernel_rfl) hb htab
  go_wp2_with fail
  refine (date_at n y m d _ hn).mono ?_; rintro e w2 ⟨rfl, rfl⟩
  go_wp2_with fail
  refine (make_at n y m d _ hn).mono ?_; rintro e w2 ⟨rfl, rfl⟩
  go_wp2_with fail
  refine (text_at n y m d _ hn htab1).mono ?_; rintro e w2 ⟨rfl, hb2⟩
  have hc2 := cell_later hb2 hc1
  have hb3 := hb.trans (hb2.mono hb.size)
  clear hb hb2 hc1 htab1 hc
  go_wp2_with fail
  refine (read_back n y m d _ hn).mono ?_; rintro e w2 ⟨rfl, rfl⟩
  go_wp2_with (go_at_call 27; refine (months_any _ _ _).mono ?_; rintro e w2 ⟨rfl, rfl⟩)
  refine (add_year_no n y m d aB _ hn (by omega) (by exact hc2)).mono ?_; rintro e w2 ⟨rfl, k, rfl⟩
  go_wp2_with (go_at_call 27; refine (months_any _ _ _).mono ?_; rintro e w2 ⟨rfl, rfl⟩)
  refine (date_at (n + 1) _ _ _ _ ha).mono ?_; rintro e w2 ⟨rfl, rfl⟩
  go_wp2_with (go_at_call 27; refine (months_any _ _ _).mono ?_; rintro e w2 ⟨rfl, rfl⟩)
  refine (week_yes n _ nb.1 nb.2).mono ?_; rintro e w2 ⟨rfl, rfl⟩
  go_wp2_with fail
  refine (week_yes (n + 1) _ (by omega) (by omega)).mono ?_; rintro e w2 ⟨rfl, rfl⟩
  go_wp2
  go_ret
  exact ⟨ret_bool (by rw [beq_iff_eq]; omega), below_draw hb3 _⟩

set_option maxRecDepth 100000 in
set_option maxHeartbeats 2000000 in
theorem back_no_month (n y m d : Int) (aB : Addr) (w : World) (htab : Lib.TabIs Tryd.prog w "internal/strconv.uint64pow10" .u64 Lib.pow10Tab)
    (hc : w.cell? ⟨1, 0, none⟩ = some (.iface 80 (.pointer (some aB)))) (hn : Cal.At n y m d) (hd : ¬ d ≤ Cal.mon (y + 1) m) (hx : n < 73048) (hx2 : d = Cal.mon y m) (hx3 : m < 12) (ha : Cal.At (n + 1) y (m + 1) 1) :
    Calls Tryd.prog 7 #[.int .i64 n] w fun e w' => e = .returned (.bool true) ∧ Below w.heap.size w w' := by
  obtain ⟨a1, a2, a3, a4, a5, a6⟩ := Cal.ok_range hn.1
  have hm : d ≤ Cal.mon y m := hn.1.2
  have nb := Cal.at_bd hn
  have hd' : Cal.mon (y + 1) m < d := by omega
  have x1 : (n == 73048) = false := by rw [beq_eq_false_iff_ne]; omega
  have x2 : (d == Cal.mon y m) = true := by rw [beq_iff_eq]; exact hx2
  have x3 : (m == 12) = false := by rw [beq_eq_false_iff_ne]; omega
  clear hx2
  go_enter Tryd.func7, Tryd.ntmps7
  go_wp2_with fail
  refine (dated_any _ htab).mono ?_; rintro e w' ⟨rfl, hb⟩
  have hc1 := cell_later hb hc
  have htab1 := Frame.tab_below (n := "internal/strconv.uint64pow10") (g := 12) (by kernel_rfl) hb htab
  go_wp2_with fail
  refine (date_at n y m d _ hn).mono ?_; rintro e w2 ⟨rfl, rfl⟩
  go_wp2_with fail
  refine (make_at n y m d _ hn).mono ?_; rintro e w2 ⟨rfl, rfl⟩
  go_wp2_with fail
  refine (text_at n y m d _ hn htab1).mono ?_; rintro e w2 ⟨rfl, hb2⟩
  have hc2 := cell_later hb2 hc1
  have hb3 := hb.trans (hb2.mono hb.size)
  clear hb hb2 hc1 htab1 hc
  go_wp2_with fail
  refine (read_back n y m d _ hn).mono ?_; rintro e w2 ⟨rfl, rfl⟩
  go_wp2_with (go_at_call 27; refine (months_any _ _ _).mono ?_; rintro e w2 ⟨rfl, rfl⟩)
  refine (add_year_no n y m d aB _ hn (by omega) (by exact hc2)).mono ?_; rintro e w2 ⟨rfl, k, rfl⟩
  go_wp2_with (go_at_call 27; refine (months_any _ _ _).mono ?_; rintro e w2 ⟨rfl, rfl⟩)
  refine (date_at (n + 1) _ _ _ _ ha).mono ?_; rintro e w2 ⟨rfl, rfl⟩
  go_wp2_with (go_at_call 27; refine (months_any _ _ _).mono ?_; rintro e w2 ⟨rfl, rfl⟩)
  refine (week_yes n _ nb.1 nb.2).mono ?_; rintro e w2 ⟨rfl, rfl⟩
  go_wp2_with fail
  refine (week_yes (n + 1) _ (by omega) (by omega)).mono ?_; rintro e w2 ⟨rfl, rfl⟩
  go_wp2
  go_ret
  exact ⟨ret_bool (by rw [beq_iff_eq]; omega), below_draw hb3 _⟩

set_option maxRecDepth 100000 in
set_option maxHeartbeats 2000000 in
theorem back_no_year (n y m d : Int) (aB : Addr) (w : World) (htab : Lib.TabIs Tryd.prog w "internal/strconv.uint64pow10" .u64 Lib.pow10Tab)
    (hc : w.cell? ⟨1, 0, none⟩ = some (.iface 80 (.pointer (some aB)))) (hn : Cal.At n y m d) (hd : ¬ d ≤ Cal.mon (y + 1) m) (hx : n < 73048) (hx2 : d = Cal.mon y m) (hx3 : m = 12) (ha : Cal.At (n + 1) (y + 1) 1 1) :
    Calls Tryd.prog 7 #[.int .i64 n] w fun e w' => e = .returned (.bool true) ∧ Below w.heap.size w w' := by
  obtain ⟨a1, a2, a3, a4, a5, a6⟩ := Cal.ok_range hn.1
  have hm : d ≤ Cal.mon y m := hn.1.2
  have nb := Cal.at_bd hn
  have hd' : Cal.mon (y + 1) m < d := by omega
  have x1 : (n == 73048) = false := by rw [beq_eq_false_iff_ne]; omega
  have x2 : (d == Cal.mon y m) = true := by rw [beq_iff_eq]; exact hx2
  have x3 : (m == 12) = true := by rw [beq_iff_eq]; exact hx3
  clear hx2 hx3
  go_enter Tryd.func7, Tryd.ntmps7
  go_wp2_with fail
  refine (dated_any _ htab).mono ?_; rintro e w' ⟨rfl, hb⟩
  have hc1 := cell_later hb hc
  have htab1 := Frame.tab_below (n := "internal/strconv.uint64pow10") (g := 12) (by kernel_rfl) hb htab
  go_wp2_with fail
  refine (date_at n y m d _ hn).mono ?_; rintro e w2 ⟨rfl, rfl⟩
  go_wp2_with fail
  refine (make_at n y m d _ hn).mono ?_; rintro e w2 ⟨rfl, rfl⟩
  go_wp2_with fail
  refine (text_at n y m d _ hn htab1).mono ?_; rintro e w2 ⟨rfl, hb2⟩
  have hc2 := cell_later hb2 hc1
  have hb3 := hb.trans (hb2.mono hb.size)
  clear hb hb2 hc1 htab1 hc
  go_wp2_with fail
  refine (read_back n y m d _ hn).mono ?_; rintro e w2 ⟨rfl, rfl⟩
  go_wp2_with (go_at_call 27; refine (months_any _ _ _).mono ?_; rintro e w2 ⟨rfl, rfl⟩)
  refine (add_year_no n y m d aB _ hn (by omega) (by exact hc2)).mono ?_; rintro e w2 ⟨rfl, k, rfl⟩
  go_wp2_with (go_at_call 27; refine (months_any _ _ _).mono ?_; rintro e w2 ⟨rfl, rfl⟩)
  refine (date_at (n + 1) _ _ _ _ ha).mono ?_; rintro e w2 ⟨rfl, rfl⟩
  go_wp2_with (go_at_call 27; refine (months_any _ _ _).mono ?_; rintro e w2 ⟨rfl, rfl⟩)
  refine (week_yes n _ nb.1 nb.2).mono ?_; rintro e w2 ⟨rfl, rfl⟩
  go_wp2_with fail
  refine (week_yes (n + 1) _ (by omega) (by omega)).mono ?_; rintro e w2 ⟨rfl, rfl⟩
  go_wp2
  go_ret
  exact ⟨ret_bool (by rw [beq_iff_eq]; omega), below_draw hb3 _⟩

theorem dayBack_any (n : Int) (aB : Addr) (w : World) (htab : Lib.TabIs Tryd.prog w "internal/strconv.uint64pow10" .u64 Lib.pow10Tab)
    (hc : w.cell? ⟨1, 0, none⟩ = some (.iface 80 (.pointer (some aB)))) :
    Calls Tryd.prog 7 #[.int .i64 n] w fun e w' => e = .returned (.bool true) ∧ Below w.heap.size w w' := by
  by_cases hr : 0 ≤ n ∧ n ≤ 73048
  · obtain ⟨y, m, d, hn⟩ := Cal.at_exists n hr.1 hr.2
    have hl := hn.1.2
    by_cases hx : n = 73048
    · by_cases hd : d ≤ Cal.mon (y + 1) m
      · exact back_yes_last n y m d aB w htab hc hn hd hx
      · exact back_no_last n y m d aB w htab hc hn hd hx
    · have hlt : n < 73048 := by omega
      have hnx := Cal.nxt_at hn hlt
      unfold Cal.nxt at hnx
      by_cases h2 : d < Cal.mon y m
      · rw [if_pos h2] at hnx
        by_cases hd : d ≤ Cal.mon (y + 1) m
        · exact back_yes_day n y m d aB w htab hc hn hd hlt h2 hnx
        · exact back_no_day n y m d aB w htab hc hn hd hlt h2 hnx
      · rw [if_neg h2] at hnx
        have h2' : d = Cal.mon y m := by omega
        by_cases h3 : m < 12
        · rw [if_pos h3] at hnx
          by_cases hd : d ≤ Cal.mon (y + 1) m
          · exact back_yes_month n y m d aB w htab hc hn hd hlt h2' h3 hnx
          · exact back_no_month n y m d aB w htab hc hn hd hlt h2' h3 hnx
        · rw [if_neg h3] at hnx
          have h3' : m = 12 := by have := Cal.ok_range hn.1; omega
          by_cases hd : d ≤ Cal.mon (y + 1) m
          · exact back_yes_year n y m d aB w htab hc hn hd hlt h2' h3' hnx
          · exact back_no_year n y m d aB w htab hc hn hd hlt h2' h3' hnx
  · exact back_off n aB w htab hc hr
end Day
end Go.Proofs.YtkgmojaecaghmaaDoor
