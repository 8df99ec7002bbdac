/- rule.number: any word as a number. -/
import Derived.Test.YtmlndamkcipebaaDoorRuleNum
namespace Go.Proofs.YtmlndamkcipebaaDoor
open Go Go.RowKit Lmd
namespace Rul
open Er Day

/-- is a word a number, and which -/
def numOk (l : List UInt8) : Bool := match Lib.atoiAll l with | .ok v => decide (l.length ≤ 9) && decide (0 ≤ v) && decide (Lib.itoa v = l) | _ => false
def numIs (l : List UInt8) : Int := match Lib.atoiAll l with | .ok v => v | _ => 0
/-- the two errors of the library -/
structure ELib (w : World) : Prop where
  sy : ∃ tp p, w.var? Tryd.prog "strconv.ErrSyntax" = some #[.iface tp p]
  ra : ∃ tp p, w.var? Tryd.prog "strconv.ErrRange" = some #[.iface tp p]

theorem var_below {w w' : World} {n : String} {c : Array Value} (h : w.var? Tryd.prog n = some c) (hb : Below w.heap.size w w') : w'.var? Tryd.prog n = some c := by
  unfold World.var? at h ⊢
  cases hg : Tryd.prog.globalNamed n with
  | none => rw [hg] at h; cases h
  | some g =>
    rw [hg] at h
    simp only [Option.bind_some] at h ⊢
    cases ho : w.heap[g]? with
    | none => rw [ho] at h; cases h
    | some o =>
      rw [hb.block g (Array.getElem?_eq_some_iff.1 ho).1, ho]
      rw [ho] at h; exact h
theorem ELib.below {w w' : World} (h : ELib w) (hb : Below w.heap.size w w') : ELib w' := by
  obtain ⟨⟨t1, p1, h1⟩, ⟨t2, p2, h2⟩⟩ := h
  exact ⟨⟨t1, p1, var_below h1 hb⟩, ⟨t2, p2, var_below h2 hb⟩⟩
theorem atoi_le {l : List UInt8} {v : Int} (h : Lib.atoiAll l = .ok v) : v ≤ 9223372036854775807 := by
  unfold Lib.atoiAll at h
  split at h
  · cases h
  · dsimp only at h
    split at h
    · cases h
    · cases h
    · split at h
      · cases h
      · split at h
        · cases h
        · cases h
          rename_i h1 h2
          split <;> omega

set_option maxRecDepth 100000 in
set_option maxHeartbeats 4000000 in
theorem number_any (s : ByteArray) (w : World) (hs : s.size ≤ 1000000) (hE : ELib w) (htab : Lib.TabIs Tryd.prog w "internal/strconv.uint64pow10" .u64 Lib.pow10Tab) :
    Calls Tryd.prog 77 #[.string s] w fun e' w' => ∃ n, e' = .returned (.tuple #[.int .i64 n, .bool (numOk s.data.toList)]) ∧ (numOk s.data.toList = true → n = numIs s.data.toList) ∧ Below w.heap.size w w' := by
  rcases h : Lib.atoiAll s.data.toList with v | _ | _
  · have hq : numOk s.data.toList = (decide (s.data.toList.length ≤ 9) && decide (0 ≤ v) && decide (Lib.itoa v = s.data.toList)) := by unfold numOk; rw [h]
    have hv : numIs s.data.toList = v := by unfold numIs; rw [h]
    have hl : s.data.toList.length = s.size := by simp
    have hat : Calls Tryd.prog 98 #[.string s] w fun e w' => e = .returned (.tuple #[.int .i64 v, .nilIface]) ∧ Below w.heap.size w w' := by
      refine (Tryd.strconv_Atoi_ok s (by omega) v h w).mono ?_
      rintro e w' ⟨rfl, (rfl | ⟨t, rfl⟩)⟩
      · exact ⟨rfl, Below.refl _ _⟩
      · exact ⟨rfl, Lib.bytesWorld_below _ _ _⟩
    have HAT := Lib.hid hat
    have HTAB := Lib.hid (fun W (h : Below w.heap.size w W) => Frame.tab_below (g := 12) (by kernel_rfl) h htab)
    obtain ⟨q, hq0⟩ : ∃ q, numOk s.data.toList = q := ⟨_, rfl⟩
    rw [hq0] at hq ⊢
    rw [hv]
    have HQ := Lib.hid hq
    have HV9 := Lib.hid (atoi_le h)
    clear hat htab hE h hq0 hv hq
    by_cases h9 : s.size ≤ 9
    · by_cases h0 : 0 ≤ v
      · have hvb : v ≤ 9223372036854775807 ∨ 9223372036854775807 < v := by omega
        clear hvb
        by_cases hi : Lib.itoa v = s.data.toList
        · obtain rfl : q = true := by rw [HQ.out, hl, decide_eq_true h9, decide_eq_true h0, decide_eq_true hi]; rfl
          have HI := Lib.hid hi
          clear hi HQ hl
          have hv9 := HV9.out
          go_enter Tryd.func77, Tryd.ntmps77
          go_wp2_with (go_at_call 98; refine HAT.out.mono ?_; rintro e1 w1 ⟨rfl, hb1⟩)
          have HB1 := Lib.hid hb1
          clear hb1
          go_wp2_with fail
          refine (itoa_b v (by omega) hv9 w1 (HTAB.out w1 HB1.out)).mono ?_
          rintro e2 w2 ⟨rfl, hb2⟩
          have HB2 := Lib.hid (HB1.out.trans (hb2.mono HB1.out.size))
          clear hb2
          have hi := HI.out
          go_wp2
          go_ret2
          exact ⟨_, rfl, fun _ => rfl, HB2.out⟩
        · obtain rfl : q = false := by rw [HQ.out, decide_eq_false hi, Bool.and_false]
          have HI := Lib.hid hi
          have hv9 := HV9.out
          clear hi HQ hl
          go_enter Tryd.func77, Tryd.ntmps77
          go_wp2_with (go_at_call 98; refine HAT.out.mono ?_; rintro e1 w1 ⟨rfl, hb1⟩)
          have HB1 := Lib.hid hb1
          clear hb1
          go_wp2_with fail
          refine (itoa_b v (by omega) hv9 w1 (HTAB.out w1 HB1.out)).mono ?_
          rintro e2 w2 ⟨rfl, hb2⟩
          have HB2 := Lib.hid (HB1.out.trans (hb2.mono HB1.out.size))
          clear hb2
          have hi := HI.out
          go_wp2
          go_ret2
          have hq : (Lib.itoa v == s.toList) = false := by rw [ByteArray.toList_eq]; exact beq_false_of_ne hi
          rw [hq]
          exact ⟨_, rfl, (fun h => (by cases h)), HB2.out⟩
      · obtain rfl : q = false := by rw [HQ.out, decide_eq_false h0, Bool.and_false]; rfl
        go_enter Tryd.func77, Tryd.ntmps77
        go_wp2_with (go_at_call 98; refine HAT.out.mono ?_; rintro e1 w1 ⟨rfl, hb1⟩)
        go_ret2
        first | exact hb1 | exact ⟨⟨_, rfl⟩, hb1⟩ | exact ⟨_, rfl, hb1⟩ | exact ⟨_, rfl, (fun h => (by cases h)), hb1⟩
    · obtain rfl : q = false := by rw [HQ.out, hl, decide_eq_false h9]; rfl
      go_enter Tryd.func77, Tryd.ntmps77
      go_wp2_with (go_at_call 98; refine HAT.out.mono ?_; rintro e1 w1 ⟨rfl, hb1⟩)
      go_ret2
      first | exact hb1 | exact ⟨⟨_, rfl⟩, hb1⟩ | exact ⟨_, rfl, hb1⟩ | exact ⟨_, rfl, (fun h => (by cases h)), hb1⟩
  · have hq : numOk s.data.toList = false := by unfold numOk; rw [h]
    rw [hq]
    obtain ⟨tp, p, hv⟩ := hE.sy
    have hat : Calls Tryd.prog 98 #[.string s] w fun e w' => ∃ N, e = .returned (.tuple #[.int .i64 0, .iface 192 (.pointer (some ⟨N, 0, none⟩))]) ∧ Below w.heap.size w w' := by
      refine (Any.strconv_Atoi_syntax_var Tryd.laysC172 s (by omega) h tp p w hv).mono ?_
      rintro e w' ⟨N, rfl, _, _, hb⟩
      exact ⟨N, rfl, hb⟩
    have HAT := Lib.hid hat
    clear hat hE hv h hq htab
    go_enter Tryd.func77, Tryd.ntmps77
    go_wp2_with (go_at_call 98; refine HAT.out.mono ?_; rintro e1 w1 ⟨N, rfl, hb1⟩)
    go_ret2
    first | exact hb1 | exact ⟨⟨_, rfl⟩, hb1⟩ | exact ⟨_, rfl, hb1⟩ | exact ⟨_, rfl, (fun h => (by cases h)), hb1⟩
  · have hq : numOk s.data.toList = false := by unfold numOk; rw [h]
    rw [hq]
    obtain ⟨tp, p, hv⟩ := hE.ra
    have hat : Calls Tryd.prog 98 #[.string s] w fun e w' => ∃ N n, e = .returned (.tuple #[.int .i64 n, .iface 192 (.pointer (some ⟨N, 0, none⟩))]) ∧ Below w.heap.size w w' := by
      refine (Any.strconv_Atoi_range_var Tryd.laysC172 s (by omega) h tp p w hv).mono ?_
      rintro e w' ⟨N, rfl, _, _, hb⟩
      exact ⟨N, _, rfl, hb⟩
    have HAT := Lib.hid hat
    clear hat hE hv h hq htab
    go_enter Tryd.func77, Tryd.ntmps77
    go_wp2_with (go_at_call 98; refine HAT.out.mono ?_; rintro e1 w1 ⟨N, n, rfl, hb1⟩)
    go_ret2
    first | exact hb1 | exact ⟨⟨_, rfl⟩, hb1⟩ | exact ⟨_, rfl, hb1⟩ | exact ⟨_, rfl, (fun h => (by cases h)), hb1⟩
end Rul
end Go.Proofs.YtmlndamkcipebaaDoor
