/- what the types of this program are -/
import Derived.Test.YtmfcgffdijnokaaPb
import Derived.Test.YtmfcgffdijnokaaProg
import Derived.KernelRfl
set_option linter.unusedVariables false
set_option linter.unusedSimpArgs false
set_option linter.unusedSectionVars false
namespace Go.SL
open Go.Proofs
instance : IntT Try.prog 3 .i64 := ⟨Try.underlying3⟩
instance : ConcT Try.prog 3 := ⟨_, Try.underlying3, fun ms h => by cases h⟩
instance : CellT Try.prog 3 (.int .i64 (0)) 8 := ⟨ElemT.of (by kernel_rfl) (by kernel_rfl) rfl⟩
instance : BoolT Try.prog 4 := ⟨Try.underlying4⟩
instance : ConcT Try.prog 4 := ⟨_, Try.underlying4, fun ms h => by cases h⟩
instance : CellT Try.prog 4 (.bool false) 1 := ⟨ElemT.of (by kernel_rfl) (by kernel_rfl) rfl⟩
instance : IntT Try.prog 5 .u8 := ⟨Try.underlying5⟩
instance : ConcT Try.prog 5 := ⟨_, Try.underlying5, fun ms h => by cases h⟩
instance : CellT Try.prog 5 (.int .u8 (0)) 1 := ⟨ElemT.of (by kernel_rfl) (by kernel_rfl) rfl⟩
instance : ConcT Try.prog 9 := ⟨_, Try.underlying9, fun ms h => by cases h⟩
instance : CellT Try.prog 9 (.string .empty) 16 := ⟨ElemT.of (by kernel_rfl) (by kernel_rfl) rfl⟩
instance : SliceT Try.prog 22 5 := ⟨Try.underlying22⟩
instance : ConcT Try.prog 22 := ⟨_, Try.underlying22, fun ms h => by cases h⟩
instance : CellT Try.prog 22 (.slice none 0 0) 24 := ⟨ElemT.of (by kernel_rfl) (by kernel_rfl) rfl⟩
instance : SliceT Try.prog 23 54 := ⟨Try.underlying23⟩
instance : ConcT Try.prog 23 := ⟨_, Try.underlying23, fun ms h => by cases h⟩
instance : CellT Try.prog 23 (.slice none 0 0) 24 := ⟨ElemT.of (by kernel_rfl) (by kernel_rfl) rfl⟩
instance : ConcT Try.prog 25 := ⟨_, Try.underlying25, fun ms h => by cases h⟩
instance : AggT Try.prog 25 4 (.agg #[(.slice none 0 0), (.slice none 0 0), (.int .i64 (0)), (.bool false)]) 64 := ⟨ElemT.of (by kernel_rfl) (by kernel_rfl) rfl⟩
instance : StructT Try.prog 25 [(0, 1), (1, 1), (2, 1), (3, 1)] [(.slice none 0 0), (.slice none 0 0), (.int .i64 (0)), (.bool false)] := ⟨by kernel_rfl⟩
instance : ConcT Try.prog 28 := ⟨_, Try.underlying28, fun ms h => by cases h⟩
instance : AggT Try.prog 28 3 (.agg #[(.int .i64 (0)), (.slice none 0 0), (.slice none 0 0)]) 56 := ⟨ElemT.of (by kernel_rfl) (by kernel_rfl) rfl⟩
instance : StructT Try.prog 28 [(0, 1), (1, 1), (2, 1)] [(.int .i64 (0)), (.slice none 0 0), (.slice none 0 0)] := ⟨by kernel_rfl⟩
instance : PtrT Try.prog 29 := ⟨_, Try.underlying29⟩
instance : ConcT Try.prog 29 := ⟨_, Try.underlying29, fun ms h => by cases h⟩
instance : CellT Try.prog 29 (.pointer none) 8 := ⟨ElemT.of (by kernel_rfl) (by kernel_rfl) rfl⟩
instance : IfaceT Try.prog 33 := ⟨_, Try.underlying33⟩
instance : CellT Try.prog 33 .nilIface 16 := ⟨ElemT.of (by kernel_rfl) (by kernel_rfl) rfl⟩
instance : IntT Try.prog 40 .i64 := ⟨Try.underlying40⟩
instance : ConcT Try.prog 40 := ⟨_, Try.underlying40, fun ms h => by cases h⟩
instance : CellT Try.prog 40 (.int .i64 (0)) 8 := ⟨ElemT.of (by kernel_rfl) (by kernel_rfl) rfl⟩
instance : SliceT Try.prog 48 3 := ⟨Try.underlying48⟩
instance : ConcT Try.prog 48 := ⟨_, Try.underlying48, fun ms h => by cases h⟩
instance : CellT Try.prog 48 (.slice none 0 0) 24 := ⟨ElemT.of (by kernel_rfl) (by kernel_rfl) rfl⟩
instance : ConcT Try.prog 50 := ⟨_, Try.underlying50, fun ms h => by cases h⟩
instance : AggT Try.prog 50 3 (.agg #[(.slice none 0 0), (.slice none 0 0), (.slice none 0 0)]) 72 := ⟨ElemT.of (by kernel_rfl) (by kernel_rfl) rfl⟩
instance : StructT Try.prog 50 [(0, 1), (1, 1), (2, 1)] [(.slice none 0 0), (.slice none 0 0), (.slice none 0 0)] := ⟨by kernel_rfl⟩
instance : ConcT Try.prog 54 := ⟨_, Try.underlying54, fun ms h => by cases h⟩
instance : AggT Try.prog 54 2 (.agg #[(.int .i64 (0)), (.int .i64 (0))]) 16 := ⟨ElemT.of (by kernel_rfl) (by kernel_rfl) rfl⟩
instance : StructT Try.prog 54 [(0, 1), (1, 1)] [(.int .i64 (0)), (.int .i64 (0))] := ⟨by kernel_rfl⟩
instance : ConcT Try.prog 55 := ⟨_, Try.underlying55, fun ms h => by cases h⟩
instance : CellT Try.prog 55 .nilFunc 8 := ⟨ElemT.of (by kernel_rfl) (by kernel_rfl) rfl⟩
instance : ConcT Try.prog 59 := ⟨_, Try.underlying59, fun ms h => by cases h⟩
instance : CellT Try.prog 59 (.map none) 8 := ⟨ElemT.of (by kernel_rfl) (by kernel_rfl) rfl⟩
instance : SliceT Try.prog 63 125 := ⟨Try.underlying63⟩
instance : ConcT Try.prog 63 := ⟨_, Try.underlying63, fun ms h => by cases h⟩
instance : CellT Try.prog 63 (.slice none 0 0) 24 := ⟨ElemT.of (by kernel_rfl) (by kernel_rfl) rfl⟩
instance : ConcT Try.prog 65 := ⟨_, Try.underlying65, fun ms h => by cases h⟩
instance : AggT Try.prog 65 3 (.agg #[(.int .i64 (0)), (.int .i64 (0)), (.slice none 0 0)]) 40 := ⟨ElemT.of (by kernel_rfl) (by kernel_rfl) rfl⟩
instance : StructT Try.prog 65 [(0, 1), (1, 1), (2, 1)] [(.int .i64 (0)), (.int .i64 (0)), (.slice none 0 0)] := ⟨by kernel_rfl⟩
instance : SliceT Try.prog 67 74 := ⟨Try.underlying67⟩
instance : ConcT Try.prog 67 := ⟨_, Try.underlying67, fun ms h => by cases h⟩
instance : CellT Try.prog 67 (.slice none 0 0) 24 := ⟨ElemT.of (by kernel_rfl) (by kernel_rfl) rfl⟩
instance : IntT Try.prog 70 .u64 := ⟨Try.underlying70⟩
instance : ConcT Try.prog 70 := ⟨_, Try.underlying70, fun ms h => by cases h⟩
instance : CellT Try.prog 70 (.int .u64 (0)) 8 := ⟨ElemT.of (by kernel_rfl) (by kernel_rfl) rfl⟩
instance : ConcT Try.prog 72 := ⟨_, Try.underlying72, fun ms h => by cases h⟩
instance : AggT Try.prog 72 5 (.agg #[(.int .i64 (0)), (.int .i64 (0)), (.int .i64 (0)), (.int .i64 (0)), (.int .i64 (0))]) 40 := ⟨ElemT.of (by kernel_rfl) (by kernel_rfl) rfl⟩
instance : StructT Try.prog 72 [(0, 1), (1, 1), (2, 1), (3, 1), (4, 1)] [(.int .i64 (0)), (.int .i64 (0)), (.int .i64 (0)), (.int .i64 (0)), (.int .i64 (0))] := ⟨by kernel_rfl⟩
instance : ConcT Try.prog 74 := ⟨_, Try.underlying74, fun ms h => by cases h⟩
instance : AggT Try.prog 74 7 (.agg #[(.int .i64 (0)), (.int .i64 (0)), (.int .i64 (0)), (.int .i64 (0)), (.int .i64 (0)), (.slice none 0 0), (.slice none 0 0)]) 88 := ⟨ElemT.of (by kernel_rfl) (by kernel_rfl) rfl⟩
instance : StructT Try.prog 74 [(0, 5), (5, 1), (6, 1)] [(.int .i64 (0)), (.int .i64 (0)), (.int .i64 (0)), (.int .i64 (0)), (.int .i64 (0)), (.slice none 0 0), (.slice none 0 0)] := ⟨by kernel_rfl⟩
instance : BoolT Try.prog 83 := ⟨Try.underlying83⟩
instance : ConcT Try.prog 83 := ⟨_, Try.underlying83, fun ms h => by cases h⟩
instance : CellT Try.prog 83 (.bool false) 1 := ⟨ElemT.of (by kernel_rfl) (by kernel_rfl) rfl⟩
instance : ConcT Try.prog 85 := ⟨_, Try.underlying85, fun ms h => by cases h⟩
instance : AggT Try.prog 85 3 (.agg #[(.bool false), (.slice none 0 0), (.int .i64 (0))]) 40 := ⟨ElemT.of (by kernel_rfl) (by kernel_rfl) rfl⟩
instance : StructT Try.prog 85 [(0, 1), (1, 1), (2, 1)] [(.bool false), (.slice none 0 0), (.int .i64 (0))] := ⟨by kernel_rfl⟩
instance : SliceT Try.prog 87 166 := ⟨Try.underlying87⟩
instance : ConcT Try.prog 87 := ⟨_, Try.underlying87, fun ms h => by cases h⟩
instance : CellT Try.prog 87 (.slice none 0 0) 24 := ⟨ElemT.of (by kernel_rfl) (by kernel_rfl) rfl⟩
instance : ConcT Try.prog 89 := ⟨_, Try.underlying89, fun ms h => by cases h⟩
instance : AggT Try.prog 89 5 (.agg #[(.slice none 0 0), (.slice none 0 0), (.slice none 0 0), (.slice none 0 0), (.int .i64 (0))]) 104 := ⟨ElemT.of (by kernel_rfl) (by kernel_rfl) rfl⟩
instance : StructT Try.prog 89 [(0, 1), (1, 1), (2, 1), (3, 1), (4, 1)] [(.slice none 0 0), (.slice none 0 0), (.slice none 0 0), (.slice none 0 0), (.int .i64 (0))] := ⟨by kernel_rfl⟩
instance : PtrT Try.prog 94 := ⟨_, Try.underlying94⟩
instance : ConcT Try.prog 94 := ⟨_, Try.underlying94, fun ms h => by cases h⟩
instance : CellT Try.prog 94 (.pointer none) 8 := ⟨ElemT.of (by kernel_rfl) (by kernel_rfl) rfl⟩
instance : ConcT Try.prog 96 := ⟨_, Try.underlying96, fun ms h => by cases h⟩
instance : AggT Try.prog 96 2 (.agg #[(.pointer none), .nilIface]) 24 := ⟨ElemT.of (by kernel_rfl) (by kernel_rfl) rfl⟩
instance : StructT Try.prog 96 [(0, 1), (1, 1)] [(.pointer none), .nilIface] := ⟨by kernel_rfl⟩
instance : SliceT Try.prog 116 48 := ⟨Try.underlying116⟩
instance : ConcT Try.prog 116 := ⟨_, Try.underlying116, fun ms h => by cases h⟩
instance : CellT Try.prog 116 (.slice none 0 0) 24 := ⟨ElemT.of (by kernel_rfl) (by kernel_rfl) rfl⟩
instance : ConcT Try.prog 125 := ⟨_, Try.underlying125, fun ms h => by cases h⟩
instance : AggT Try.prog 125 4 (.agg #[(.int .i64 (0)), (.int .i64 (0)), (.int .i64 (0)), (.int .i64 (0))]) 32 := ⟨ElemT.of (by kernel_rfl) (by kernel_rfl) rfl⟩
instance : StructT Try.prog 125 [(0, 1), (1, 1), (2, 1), (3, 1)] [(.int .i64 (0)), (.int .i64 (0)), (.int .i64 (0)), (.int .i64 (0))] := ⟨by kernel_rfl⟩
instance : ConcT Try.prog 126 := ⟨_, Try.underlying126, fun ms h => by cases h⟩
instance : CellT Try.prog 126 .nilFunc 8 := ⟨ElemT.of (by kernel_rfl) (by kernel_rfl) rfl⟩
instance : ConcT Try.prog 131 := ⟨_, Try.underlying131, fun ms h => by cases h⟩
instance : CellT Try.prog 131 .nilFunc 8 := ⟨ElemT.of (by kernel_rfl) (by kernel_rfl) rfl⟩
instance : ConcT Try.prog 137 := ⟨_, Try.underlying137, fun ms h => by cases h⟩
instance : CellT Try.prog 137 (.map none) 8 := ⟨ElemT.of (by kernel_rfl) (by kernel_rfl) rfl⟩
instance : ConcT Try.prog 141 := ⟨_, Try.underlying141, fun ms h => by cases h⟩
instance : AggT Try.prog 141 2 (.agg #[(.int .i64 (0)), (.int .i64 (0))]) 16 := ⟨ElemT.of (by kernel_rfl) (by kernel_rfl) rfl⟩
instance : PtrT Try.prog 163 := ⟨_, Try.underlying163⟩
instance : ConcT Try.prog 163 := ⟨_, Try.underlying163, fun ms h => by cases h⟩
instance : CellT Try.prog 163 (.pointer none) 8 := ⟨ElemT.of (by kernel_rfl) (by kernel_rfl) rfl⟩
instance : ConcT Try.prog 166 := ⟨_, Try.underlying166, fun ms h => by cases h⟩
instance : AggT Try.prog 166 2 (.agg #[(.int .i64 (0)), (.int .i64 (0))]) 16 := ⟨ElemT.of (by kernel_rfl) (by kernel_rfl) rfl⟩
instance : StructT Try.prog 166 [(0, 1), (1, 1)] [(.int .i64 (0)), (.int .i64 (0))] := ⟨by kernel_rfl⟩
instance : ConcT Try.prog 173 := ⟨_, Try.underlying173, fun ms h => by cases h⟩
instance : AggT Try.prog 173 3 (.agg #[(.int .i64 (0)), (.int .i64 (0)), (.slice none 0 0)]) 40 := ⟨ElemT.of (by kernel_rfl) (by kernel_rfl) rfl⟩
instance : StructT Try.prog 173 [(0, 1), (1, 1), (2, 1)] [(.int .i64 (0)), (.int .i64 (0)), (.slice none 0 0)] := ⟨by kernel_rfl⟩
instance : SliceT Try.prog 180 184 := ⟨Try.underlying180⟩
instance : ConcT Try.prog 180 := ⟨_, Try.underlying180, fun ms h => by cases h⟩
instance : CellT Try.prog 180 (.slice none 0 0) 24 := ⟨ElemT.of (by kernel_rfl) (by kernel_rfl) rfl⟩
instance : ConcT Try.prog 184 := ⟨_, Try.underlying184, fun ms h => by cases h⟩
instance : AggT Try.prog 184 2 (.agg #[(.string .empty), (.slice none 0 0)]) 40 := ⟨ElemT.of (by kernel_rfl) (by kernel_rfl) rfl⟩
instance : StructT Try.prog 184 [(0, 1), (1, 1)] [(.string .empty), (.slice none 0 0)] := ⟨by kernel_rfl⟩
instance : ConcT Try.prog 186 := ⟨_, Try.underlying186, fun ms h => by cases h⟩
instance : CellT Try.prog 186 (.map none) 8 := ⟨ElemT.of (by kernel_rfl) (by kernel_rfl) rfl⟩
instance : ConcT Try.prog 189 := ⟨_, Try.underlying189, fun ms h => by cases h⟩
instance : CellT Try.prog 189 .nilFunc 8 := ⟨ElemT.of (by kernel_rfl) (by kernel_rfl) rfl⟩
instance : ConcT Try.prog 191 := ⟨_, Try.underlying191, fun ms h => by cases h⟩
instance : AggT Try.prog 191 4 (.agg #[(.int .i64 (0)), (.int .i64 (0)), (.int .i64 (0)), (.int .i64 (0))]) 32 := ⟨ElemT.of (by kernel_rfl) (by kernel_rfl) rfl⟩
instance : StructT Try.prog 191 [(0, 1), (1, 1), (2, 1), (3, 1)] [(.int .i64 (0)), (.int .i64 (0)), (.int .i64 (0)), (.int .i64 (0))] := ⟨by kernel_rfl⟩
instance : ConcT Try.prog 192 := ⟨_, Try.underlying192, fun ms h => by cases h⟩
instance : AggT Try.prog 192 28 (.agg #[(.int .i64 (0)), (.int .i64 (0)), (.int .i64 (0)), (.int .i64 (0)), (.int .i64 (0)), (.int .i64 (0)), (.int .i64 (0)), (.int .i64 (0)), (.int .i64 (0)), (.int .i64 (0)), (.int .i64 (0)), (.int .i64 (0)), (.int .i64 (0)), (.int .i64 (0)), (.int .i64 (0)), (.int .i64 (0)), (.int .i64 (0)), (.int .i64 (0)), (.int .i64 (0)), (.int .i64 (0)), (.int .i64 (0)), (.int .i64 (0)), (.int .i64 (0)), (.int .i64 (0)), (.int .i64 (0)), (.int .i64 (0)), (.int .i64 (0)), (.int .i64 (0))]) 224 := ⟨ElemT.of (by kernel_rfl) (by kernel_rfl) rfl⟩
instance : SliceT Try.prog 194 191 := ⟨Try.underlying194⟩
instance : ConcT Try.prog 194 := ⟨_, Try.underlying194, fun ms h => by cases h⟩
instance : CellT Try.prog 194 (.slice none 0 0) 24 := ⟨ElemT.of (by kernel_rfl) (by kernel_rfl) rfl⟩
instance : PtrT Try.prog 203 := ⟨_, Try.underlying203⟩
instance : ConcT Try.prog 203 := ⟨_, Try.underlying203, fun ms h => by cases h⟩
instance : CellT Try.prog 203 (.pointer none) 8 := ⟨ElemT.of (by kernel_rfl) (by kernel_rfl) rfl⟩
instance : ConcT Try.prog 207 := ⟨_, Try.underlying207, fun ms h => by cases h⟩
instance : AggT Try.prog 207 4 (.agg #[(.int .i64 (0)), (.int .i64 (0)), (.int .i64 (0)), (.int .i64 (0))]) 32 := ⟨ElemT.of (by kernel_rfl) (by kernel_rfl) rfl⟩
instance : SliceT Try.prog 217 245 := ⟨Try.underlying217⟩
instance : ConcT Try.prog 217 := ⟨_, Try.underlying217, fun ms h => by cases h⟩
instance : CellT Try.prog 217 (.slice none 0 0) 24 := ⟨ElemT.of (by kernel_rfl) (by kernel_rfl) rfl⟩
instance : IntT Try.prog 229 .u32 := ⟨Try.underlying229⟩
instance : ConcT Try.prog 229 := ⟨_, Try.underlying229, fun ms h => by cases h⟩
instance : CellT Try.prog 229 (.int .u32 (0)) 4 := ⟨ElemT.of (by kernel_rfl) (by kernel_rfl) rfl⟩
instance : IntT Try.prog 232 .u64 := ⟨Try.underlying232⟩
instance : ConcT Try.prog 232 := ⟨_, Try.underlying232, fun ms h => by cases h⟩
instance : CellT Try.prog 232 (.int .u64 (0)) 8 := ⟨ElemT.of (by kernel_rfl) (by kernel_rfl) rfl⟩
instance : ConcT Try.prog 236 := ⟨_, Try.underlying236, fun ms h => by cases h⟩
instance : AggT Try.prog 236 3 (.agg #[(.bool false), (.slice none 0 0), (.int .i64 (0))]) 40 := ⟨ElemT.of (by kernel_rfl) (by kernel_rfl) rfl⟩
instance : StructT Try.prog 236 [(0, 1), (1, 1), (2, 1)] [(.bool false), (.slice none 0 0), (.int .i64 (0))] := ⟨by kernel_rfl⟩
instance : ConcT Try.prog 240 := ⟨_, Try.underlying240, fun ms h => by cases h⟩
instance : AggT Try.prog 240 2 (.agg #[(.int .i64 (0)), (.slice none 0 0)]) 32 := ⟨ElemT.of (by kernel_rfl) (by kernel_rfl) rfl⟩
instance : StructT Try.prog 240 [(0, 1), (1, 1)] [(.int .i64 (0)), (.slice none 0 0)] := ⟨by kernel_rfl⟩
instance : ConcT Try.prog 241 := ⟨_, Try.underlying241, fun ms h => by cases h⟩
instance : AggT Try.prog 241 34 (.agg #[(.int .i64 (0)), (.slice none 0 0), (.int .i64 (0)), (.slice none 0 0), (.int .i64 (0)), (.slice none 0 0), (.int .i64 (0)), (.slice none 0 0), (.int .i64 (0)), (.slice none 0 0), (.int .i64 (0)), (.slice none 0 0), (.int .i64 (0)), (.slice none 0 0), (.int .i64 (0)), (.slice none 0 0), (.int .i64 (0)), (.slice none 0 0), (.int .i64 (0)), (.slice none 0 0), (.int .i64 (0)), (.slice none 0 0), (.int .i64 (0)), (.slice none 0 0), (.int .i64 (0)), (.slice none 0 0), (.int .i64 (0)), (.slice none 0 0), (.int .i64 (0)), (.slice none 0 0), (.int .i64 (0)), (.slice none 0 0), (.int .i64 (0)), (.slice none 0 0)]) 544 := ⟨ElemT.of (by kernel_rfl) (by kernel_rfl) rfl⟩
instance : ConcT Try.prog 243 := ⟨_, Try.underlying243, fun ms h => by cases h⟩
instance : AggT Try.prog 243 37 (.agg #[(.slice none 0 0), (.slice none 0 0), (.slice none 0 0), (.int .i64 (0)), (.slice none 0 0), (.int .i64 (0)), (.slice none 0 0), (.int .i64 (0)), (.slice none 0 0), (.int .i64 (0)), (.slice none 0 0), (.int .i64 (0)), (.slice none 0 0), (.int .i64 (0)), (.slice none 0 0), (.int .i64 (0)), (.slice none 0 0), (.int .i64 (0)), (.slice none 0 0), (.int .i64 (0)), (.slice none 0 0), (.int .i64 (0)), (.slice none 0 0), (.int .i64 (0)), (.slice none 0 0), (.int .i64 (0)), (.slice none 0 0), (.int .i64 (0)), (.slice none 0 0), (.int .i64 (0)), (.slice none 0 0), (.int .i64 (0)), (.slice none 0 0), (.int .i64 (0)), (.slice none 0 0), (.int .i64 (0)), (.slice none 0 0)]) 616 := ⟨ElemT.of (by kernel_rfl) (by kernel_rfl) rfl⟩
instance : StructT Try.prog 243 [(0, 1), (1, 1), (2, 1), (3, 34)] [(.slice none 0 0), (.slice none 0 0), (.slice none 0 0), (.int .i64 (0)), (.slice none 0 0), (.int .i64 (0)), (.slice none 0 0), (.int .i64 (0)), (.slice none 0 0), (.int .i64 (0)), (.slice none 0 0), (.int .i64 (0)), (.slice none 0 0), (.int .i64 (0)), (.slice none 0 0), (.int .i64 (0)), (.slice none 0 0), (.int .i64 (0)), (.slice none 0 0), (.int .i64 (0)), (.slice none 0 0), (.int .i64 (0)), (.slice none 0 0), (.int .i64 (0)), (.slice none 0 0), (.int .i64 (0)), (.slice none 0 0), (.int .i64 (0)), (.slice none 0 0), (.int .i64 (0)), (.slice none 0 0), (.int .i64 (0)), (.slice none 0 0), (.int .i64 (0)), (.slice none 0 0), (.int .i64 (0)), (.slice none 0 0)] := ⟨by kernel_rfl⟩
instance : ConcT Try.prog 245 := ⟨_, Try.underlying245, fun ms h => by cases h⟩
instance : AggT Try.prog 245 2 (.agg #[(.int .i64 (0)), (.slice none 0 0)]) 32 := ⟨ElemT.of (by kernel_rfl) (by kernel_rfl) rfl⟩
instance : StructT Try.prog 245 [(0, 1), (1, 1)] [(.int .i64 (0)), (.slice none 0 0)] := ⟨by kernel_rfl⟩
instance : ConcT Try.prog 247 := ⟨_, Try.underlying247, fun ms h => by cases h⟩
instance : CellT Try.prog 247 .nilFunc 8 := ⟨ElemT.of (by kernel_rfl) (by kernel_rfl) rfl⟩
instance : IntT Try.prog 251 .i8 := ⟨Try.underlying251⟩
instance : ConcT Try.prog 251 := ⟨_, Try.underlying251, fun ms h => by cases h⟩
instance : CellT Try.prog 251 (.int .i8 (0)) 1 := ⟨ElemT.of (by kernel_rfl) (by kernel_rfl) rfl⟩
instance : SliceT Try.prog 256 217 := ⟨Try.underlying256⟩
instance : ConcT Try.prog 256 := ⟨_, Try.underlying256, fun ms h => by cases h⟩
instance : CellT Try.prog 256 (.slice none 0 0) 24 := ⟨ElemT.of (by kernel_rfl) (by kernel_rfl) rfl⟩
end Go.SL
