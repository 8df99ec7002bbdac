/- Rules: the small functions of package rule. -/
import Derived.Test.YtmlndamkcipebaaDoorInts
import Derived.Test.YtmlndamkcipebaaDoorCode
import Derived.Test.YtmlndamkcipebaaDoorShelf
import Derived.Test.YtmlndamkcipebaaDoorDay
namespace Go.Proofs.YtmlndamkcipebaaDoor
open Go Go.RowKit Lmd
namespace Rul

/-- a rule's fields, its days apart -/
structure Ru where
  (fq : ByteArray) (ev ct un : Int) (ds : List Int)
def Ru.val (r : Ru) (v : Value) : Value := .agg #[.string r.fq, .int .i64 r.ev, v, .int .i64 r.ct, .int .i64 r.un]

abbrev once : ByteArray := ⟨#[111, 110, 99, 101]⟩
abbrev daily : ByteArray := ⟨#[100, 97, 105, 108, 121]⟩
abbrev weekly : ByteArray := ⟨#[119, 101, 101, 107, 108, 121]⟩
abbrev monthly : ByteArray := ⟨#[109, 111, 110, 116, 104, 108, 121]⟩
abbrev yearly : ByteArray := ⟨#[121, 101, 97, 114, 108, 121]⟩
def freqs : List ByteArray := [once, daily, weekly, monthly, yearly]

/-- is a number in a span -/
def inB (n a b : Int) : Bool := decide (a ≤ n ∧ n ≤ b)
/-- the first bounds -/
def boundB (r : Ru) : Bool := inB r.ev 1 100 && inB r.ct 0 1000 && inB r.un (-1) 73048
def daysB (xs : List Int) : Bool := xs.all fun d => inB d 0 6
def shapeB (r : Ru) : Bool := (!decide (r.fq.toList = [111, 110, 99, 101]) || decide (r.ev = 1) && decide (r.ct = 0) && decide (r.un = -1)) && (decide (r.fq.toList = [119, 101, 101, 107, 108, 121]) || decide (r.ds = [])) && (decide (r.ct = 0) || decide (r.un = -1))
/-- do the days rise, from the one of number i on -/
def riseB (xs : List Int) : Bool := (List.range (xs.length - 1)).all fun i => decide (Ints.el xs i < Ints.el xs (i + 1))
/-- what is wrong with a rule: 0: nothing -/
def bad (r : Ru) : Nat :=
  if Lib.containsS freqs r.fq = false then 4 else if (boundB r && daysB r.ds) = false then 2 else if shapeB r = false then 3 else if riseB r.ds = false then 8 else 0

theorem within_any (n a b : Int) (w : World) : Calls Tryd.prog 74 #[.int .i64 n, .int .i64 a, .int .i64 b] w fun e w' => e = .returned (.bool (inB n a b)) ∧ w' = w := by
  by_cases h1 : a ≤ n
  · by_cases h2 : n ≤ b
    · have hq : inB n a b = true := decide_eq_true ⟨h1, h2⟩
      have HQ := Lib.hid hq
      clear hq
      go_enter Tryd.func74, Tryd.ntmps74
      go_wp2
      go_ret
      exact ⟨by rw [HQ.out]; rfl, rfl⟩
    · have hq : inB n a b = false := decide_eq_false (fun h => h2 h.2)
      have HQ := Lib.hid hq
      clear hq
      go_enter Tryd.func74, Tryd.ntmps74
      go_wp2
      go_ret
      exact ⟨by rw [HQ.out]; rfl, rfl⟩
  · have hq : inB n a b = false := decide_eq_false (fun h => h1 h.1)
    have HQ := Lib.hid hq
    clear hq
    go_enter Tryd.func74, Tryd.ntmps74
    go_wp2
    go_ret
    exact ⟨by rw [HQ.out]; rfl, rfl⟩

theorem heap_new (w : World) (o : Obj) : (w.alloc o).heap[w.heap.size]? = some o := by show (w.heap.push o)[w.heap.size]? = _; simp
abbrev freqsV : Array Value := #[.string once, .string daily, .string weekly, .string monthly, .string yearly]
theorem cell_of {W : World} {B : Nat} {vs : Array Value} {t : TypeId} {i : Nat} {v : Value} (h : W.heap[B]? = some (.cells vs t)) (hv : vs[i]? = some v) : W.cell? ⟨B, i, none⟩ = some v := by
  simp only [World.cell?, h]; exact hv
theorem freqs_new (w : World) : Calls Tryd.prog 73 #[] w fun e w' => e = .returned (.slice (some ⟨w.heap.size, 0, none⟩) 5 5) ∧ w' = w.alloc (.cells freqsV 9) := by
  go_enter Tryd.func73, Tryd.ntmps73
  go_wp2
  go_ret
  exact ⟨rfl, rfl⟩
theorem freqs_cells (W : World) (B : Nat) (h : W.heap[B]? = some (.cells freqsV 9)) (j : Nat) (hj : j < freqs.length) : W.cell? ⟨B, 0 + j, none⟩ = some (.string (freqs.getD j ByteArray.empty)) := by
  simp only [World.cell?, h, Nat.zero_add]
  have hj' : j < 5 := hj
  have : j = 0 ∨ j = 1 ∨ j = 2 ∨ j = 3 ∨ j = 4 := by omega
  rcases this with rfl | rfl | rfl | rfl | rfl <;> rfl
theorem freqs_has (W : World) (B : Nat) (h : W.heap[B]? = some (.cells freqsV 9)) (x : ByteArray) :
    Calls Tryd.prog 72 #[.slice (some ⟨B, 0, none⟩) 5 5, .string x] W fun e w' => e = .returned (.bool (Lib.containsS freqs x)) ∧ w' = W :=
  (Tryd.slices_Contains_string B 0 5 5 freqs x W (by decide) (by decide) (freqs_cells W B h)).mono fun _ _ ⟨h1, h2⟩ => ⟨h1, h2⟩

set_option maxHeartbeats 4000000 in
theorem shape_any (r : Ru) (a : Option Addr) (cap : Nat) (w : World) (hl : r.ds.length < 1000) :
    Calls Tryd.prog 75 #[r.val (.slice a r.ds.length cap)] w fun e w' => e = .returned (.bool (shapeB r)) ∧ Below w.heap.size w w' := by
  obtain ⟨fq, ev, ct, un, ds⟩ := r
  simp only [Ru.val] at *
  obtain ⟨q, hq⟩ : ∃ q, shapeB ⟨fq, ev, ct, un, ds⟩ = q := ⟨_, rfl⟩
  have HQ := Lib.hid hq
  rw [hq]
  clear hq
  go_enter Tryd.func75, Tryd.ntmps75
  go_wp2
  all_goals go_ret
  all_goals refine ⟨?_, (Below.refl _ w).alloc (Nat.le_refl _) _⟩
  all_goals (have hq := HQ.out; clear HQ; subst hq; simp_all [shapeB])
  all_goals (by_cases hu : un = -1 <;> simp_all)

end Rul
end Go.Proofs.YtmlndamkcipebaaDoor
