/- A slice literal of one number, of one move. -/
import Derived.Great.Walk
import Derived.Test.YtkhkhbeolhhomaaGreatDoorEvLaws
namespace Go.Proofs.YtkhkhbeolhhomaaGreatDoor
open Go Go.RowKit Go.Shelf Lmd
namespace Evt
open Rul Day Cand Er
theorem build_int {w : World} {ops : Array Oper} {rest : List Oper} {o : Oper} {a : Act} {Q : Exit → Act → World → Prop} (hgd : o.guard = none) (s : Operand) (ho : o.op = .buildSlice 33 1 #[(0, s)]) (x : Int) (hs : a.eval s = .int .i64 x)
    (h : ∀ w' B, B = w.heap.size → w.alloc (.cells #[.int .i64 x] 3) = w' → wpList Tryz.prog ops Q rest (a.put o.dst (.slice (some ⟨B, 0, none⟩) 1 1)) w') : wpList Tryz.prog ops Q (o :: rest) a w := by
  refine Great.wpList_buildSliceTo hgd 33 3 1 _ ho w.heap.size rfl o.dst rfl (by kernel_rfl) #[.int .i64 x] ?_ (h _ _ rfl rfl)
  simp only [List.map_toArray, List.map_cons, List.map_nil]
  rw [hs]
  kernel_rfl
theorem build_move {w : World} {ops : Array Oper} {rest : List Oper} {o : Oper} {a : Act} {Q : Exit → Act → World → Prop} (hgd : o.guard = none) (s : Operand) (ho : o.op = .buildSlice 36 1 #[(0, s)]) (x c : Int) (hs : a.eval s = .agg #[.int .i64 x, .int .i64 c])
    (h : ∀ w' B, B = w.heap.size → w.alloc (.cells #[.int .i64 x, .int .i64 c] 54) = w' → wpList Tryz.prog ops Q rest (a.put o.dst (.slice (some ⟨B, 0, none⟩) 1 1)) w') : wpList Tryz.prog ops Q (o :: rest) a w := by
  refine Great.wpList_buildSliceTo hgd 36 54 1 _ ho w.heap.size rfl o.dst rfl (by kernel_rfl) #[.int .i64 x, .int .i64 c] ?_ (h _ _ rfl rfl)
  simp only [List.map_toArray, List.map_cons, List.map_nil]
  rw [hs]
  kernel_rfl
end Evt
end Go.Proofs.YtkhkhbeolhhomaaGreatDoor
