/- Facts of this program's types and functions, as the evaluator asks for them; written by a program of this session. -/
import Derived.Test.YtnfhglplafmfiaaGreatAEd
import Derived.Test.YtnfhglplafmfiaaGreatProg
import Derived.KernelRfl
namespace Go.Proofs.YtnfhglplafmfiaaGreatE
open Go Go.Proofs
set_option maxRecDepth 100000
@[simp] theorem tk2 : tk Tryz.prog 2 = TK.int IntKind.i64 := by kernel_rfl
@[simp] theorem sz2 : sz Tryz.prog 2 = 1 := by kernel_rfl
@[simp] theorem byts2 : byts Tryz.prog 2 = 8 := by kernel_rfl
@[simp] theorem zer2 : zer Tryz.prog 2 = some ((AV.d (D.int IntKind.i64 (0)))) := by kernel_rfl
@[simp] theorem tk3 : tk Tryz.prog 3 = TK.int IntKind.i64 := by kernel_rfl
@[simp] theorem sz3 : sz Tryz.prog 3 = 1 := by kernel_rfl
@[simp] theorem byts3 : byts Tryz.prog 3 = 8 := by kernel_rfl
@[simp] theorem zer3 : zer Tryz.prog 3 = some ((AV.d (D.int IntKind.i64 (0)))) := by kernel_rfl
@[simp] theorem tk4 : tk Tryz.prog 4 = TK.bool := by kernel_rfl
@[simp] theorem sz4 : sz Tryz.prog 4 = 1 := by kernel_rfl
@[simp] theorem byts4 : byts Tryz.prog 4 = 1 := by kernel_rfl
@[simp] theorem zer4 : zer Tryz.prog 4 = some ((AV.d (D.bool false))) := by kernel_rfl
@[simp] theorem tk5 : tk Tryz.prog 5 = TK.int IntKind.u8 := by kernel_rfl
@[simp] theorem sz5 : sz Tryz.prog 5 = 1 := by kernel_rfl
@[simp] theorem byts5 : byts Tryz.prog 5 = 1 := by kernel_rfl
@[simp] theorem zer5 : zer Tryz.prog 5 = some ((AV.d (D.int IntKind.u8 (0)))) := by kernel_rfl
@[simp] theorem tk9 : tk Tryz.prog 9 = TK.string := by kernel_rfl
@[simp] theorem sz9 : sz Tryz.prog 9 = 1 := by kernel_rfl
@[simp] theorem byts9 : byts Tryz.prog 9 = 16 := by kernel_rfl
@[simp] theorem zer9 : zer Tryz.prog 9 = some ((AV.d (D.str ByteArray.empty))) := by kernel_rfl
@[simp] theorem tk22 : tk Tryz.prog 22 = TK.slice 25 := by kernel_rfl
@[simp] theorem sz22 : sz Tryz.prog 22 = 1 := by kernel_rfl
@[simp] theorem byts22 : byts Tryz.prog 22 = 24 := by kernel_rfl
@[simp] theorem zer22 : zer Tryz.prog 22 = some ((AV.d D.nil)) := by kernel_rfl
@[simp] theorem tk24 : tk Tryz.prog 24 = TK.struct [(0, 22)] := by kernel_rfl
@[simp] theorem sz24 : sz Tryz.prog 24 = 1 := by kernel_rfl
@[simp] theorem byts24 : byts Tryz.prog 24 = 24 := by kernel_rfl
@[simp] theorem zer24 : zer Tryz.prog 24 = some ((AV.agg [AV.d D.nil])) := by kernel_rfl
@[simp] theorem tk25 : tk Tryz.prog 25 = TK.slice 2 := by kernel_rfl
@[simp] theorem sz25 : sz Tryz.prog 25 = 1 := by kernel_rfl
@[simp] theorem byts25 : byts Tryz.prog 25 = 24 := by kernel_rfl
@[simp] theorem zer25 : zer Tryz.prog 25 = some ((AV.d D.nil)) := by kernel_rfl
@[simp] theorem tk27 : tk Tryz.prog 27 = TK.struct [(0, 2), (1, 25)] := by kernel_rfl
@[simp] theorem sz27 : sz Tryz.prog 27 = 2 := by kernel_rfl
@[simp] theorem byts27 : byts Tryz.prog 27 = 32 := by kernel_rfl
@[simp] theorem zer27 : zer Tryz.prog 27 = some ((AV.agg [AV.d (D.int IntKind.i64 (0)), AV.d D.nil])) := by kernel_rfl
@[simp] theorem tk32 : tk Tryz.prog 32 = TK.struct [(0, 22)] := by kernel_rfl
@[simp] theorem sz32 : sz Tryz.prog 32 = 1 := by kernel_rfl
@[simp] theorem byts32 : byts Tryz.prog 32 = 24 := by kernel_rfl
@[simp] theorem zer32 : zer Tryz.prog 32 = some ((AV.agg [AV.d D.nil])) := by kernel_rfl
@[simp] theorem tk34 : tk Tryz.prog 34 = TK.struct [(0, 2), (1, 25)] := by kernel_rfl
@[simp] theorem sz34 : sz Tryz.prog 34 = 2 := by kernel_rfl
@[simp] theorem byts34 : byts Tryz.prog 34 = 32 := by kernel_rfl
@[simp] theorem zer34 : zer Tryz.prog 34 = some ((AV.agg [AV.d (D.int IntKind.i64 (0)), AV.d D.nil])) := by kernel_rfl
@[simp] theorem tk43 : tk Tryz.prog 43 = TK.slice 5 := by kernel_rfl
@[simp] theorem sz43 : sz Tryz.prog 43 = 1 := by kernel_rfl
@[simp] theorem byts43 : byts Tryz.prog 43 = 24 := by kernel_rfl
@[simp] theorem zer43 : zer Tryz.prog 43 = some ((AV.d D.nil)) := by kernel_rfl
@[simp] theorem tk46 : tk Tryz.prog 46 = TK.struct [(0, 2), (1, 25)] := by kernel_rfl
@[simp] theorem sz46 : sz Tryz.prog 46 = 2 := by kernel_rfl
@[simp] theorem byts46 : byts Tryz.prog 46 = 32 := by kernel_rfl
@[simp] theorem zer46 : zer Tryz.prog 46 = some ((AV.agg [AV.d (D.int IntKind.i64 (0)), AV.d D.nil])) := by kernel_rfl
@[simp] theorem tk54 : tk Tryz.prog 54 = TK.func := by kernel_rfl
@[simp] theorem sz54 : sz Tryz.prog 54 = 1 := by kernel_rfl
@[simp] theorem byts54 : byts Tryz.prog 54 = 8 := by kernel_rfl
@[simp] theorem tk93 : tk Tryz.prog 93 = TK.func := by kernel_rfl
@[simp] theorem sz93 : sz Tryz.prog 93 = 1 := by kernel_rfl
@[simp] theorem byts93 : byts Tryz.prog 93 = 8 := by kernel_rfl
@[simp] theorem tk100 : tk Tryz.prog 100 = TK.other := by kernel_rfl
@[simp] theorem sz100 : sz Tryz.prog 100 = 1 := by kernel_rfl
@[simp] theorem byts100 : byts Tryz.prog 100 = 8 := by kernel_rfl
@[simp] theorem zer100 : zer Tryz.prog 100 = some (AV.undef) := by kernel_rfl
@[simp] theorem tk106 : tk Tryz.prog 106 = TK.other := by kernel_rfl
@[simp] theorem sz106 : sz Tryz.prog 106 = 1 := by kernel_rfl
@[simp] theorem byts106 : byts Tryz.prog 106 = 8 := by kernel_rfl
@[simp] theorem zer106 : zer Tryz.prog 106 = some (AV.undef) := by kernel_rfl
@[simp] theorem tk132 : tk Tryz.prog 132 = TK.func := by kernel_rfl
@[simp] theorem sz132 : sz Tryz.prog 132 = 1 := by kernel_rfl
@[simp] theorem byts132 : byts Tryz.prog 132 = 8 := by kernel_rfl
@[simp] theorem tk136 : tk Tryz.prog 136 = TK.func := by kernel_rfl
@[simp] theorem sz136 : sz Tryz.prog 136 = 1 := by kernel_rfl
@[simp] theorem byts136 : byts Tryz.prog 136 = 8 := by kernel_rfl
@[simp] theorem tk155 : tk Tryz.prog 155 = TK.struct [(0, 2), (1, 22)] := by kernel_rfl
@[simp] theorem sz155 : sz Tryz.prog 155 = 2 := by kernel_rfl
@[simp] theorem byts155 : byts Tryz.prog 155 = 32 := by kernel_rfl
@[simp] theorem zer155 : zer Tryz.prog 155 = some ((AV.agg [AV.d (D.int IntKind.i64 (0)), AV.d D.nil])) := by kernel_rfl
@[simp] theorem tk158 : tk Tryz.prog 158 = TK.func := by kernel_rfl
@[simp] theorem sz158 : sz Tryz.prog 158 = 1 := by kernel_rfl
@[simp] theorem byts158 : byts Tryz.prog 158 = 8 := by kernel_rfl
@[simp] theorem tk161 : tk Tryz.prog 161 = TK.slice 46 := by kernel_rfl
@[simp] theorem sz161 : sz Tryz.prog 161 = 1 := by kernel_rfl
@[simp] theorem byts161 : byts Tryz.prog 161 = 24 := by kernel_rfl
@[simp] theorem zer161 : zer Tryz.prog 161 = some ((AV.d D.nil)) := by kernel_rfl
@[simp] theorem tk163 : tk Tryz.prog 163 = TK.int IntKind.u64 := by kernel_rfl
@[simp] theorem sz163 : sz Tryz.prog 163 = 1 := by kernel_rfl
@[simp] theorem byts163 : byts Tryz.prog 163 = 8 := by kernel_rfl
@[simp] theorem zer163 : zer Tryz.prog 163 = some ((AV.d (D.int IntKind.u64 (0)))) := by kernel_rfl
@[simp] theorem tk165 : tk Tryz.prog 165 = TK.struct [(0, 43), (1, 3), (2, 163)] := by kernel_rfl
@[simp] theorem sz165 : sz Tryz.prog 165 = 3 := by kernel_rfl
@[simp] theorem byts165 : byts Tryz.prog 165 = 40 := by kernel_rfl
@[simp] theorem zer165 : zer Tryz.prog 165 = some ((AV.agg [AV.d D.nil, AV.d (D.int IntKind.i64 (0)), AV.d (D.int IntKind.u64 (0))])) := by kernel_rfl
@[simp] theorem tk176 : tk Tryz.prog 176 = TK.slice 34 := by kernel_rfl
@[simp] theorem sz176 : sz Tryz.prog 176 = 1 := by kernel_rfl
@[simp] theorem byts176 : byts Tryz.prog 176 = 24 := by kernel_rfl
@[simp] theorem zer176 : zer Tryz.prog 176 = some ((AV.d D.nil)) := by kernel_rfl
@[simp] theorem tk178 : tk Tryz.prog 178 = TK.int IntKind.u64 := by kernel_rfl
@[simp] theorem sz178 : sz Tryz.prog 178 = 1 := by kernel_rfl
@[simp] theorem byts178 : byts Tryz.prog 178 = 8 := by kernel_rfl
@[simp] theorem zer178 : zer Tryz.prog 178 = some ((AV.d (D.int IntKind.u64 (0)))) := by kernel_rfl
@[simp] theorem tk195 : tk Tryz.prog 195 = TK.slice 9 := by kernel_rfl
@[simp] theorem sz195 : sz Tryz.prog 195 = 1 := by kernel_rfl
@[simp] theorem byts195 : byts Tryz.prog 195 = 24 := by kernel_rfl
@[simp] theorem zer195 : zer Tryz.prog 195 = some ((AV.d D.nil)) := by kernel_rfl
@[simp] theorem tk211 : tk Tryz.prog 211 = TK.int IntKind.i64 := by kernel_rfl
@[simp] theorem sz211 : sz Tryz.prog 211 = 1 := by kernel_rfl
@[simp] theorem byts211 : byts Tryz.prog 211 = 8 := by kernel_rfl
@[simp] theorem zer211 : zer Tryz.prog 211 = some ((AV.d (D.int IntKind.i64 (0)))) := by kernel_rfl
@[simp] theorem tk219 : tk Tryz.prog 219 = TK.int IntKind.u32 := by kernel_rfl
@[simp] theorem sz219 : sz Tryz.prog 219 = 1 := by kernel_rfl
@[simp] theorem byts219 : byts Tryz.prog 219 = 4 := by kernel_rfl
@[simp] theorem zer219 : zer Tryz.prog 219 = some ((AV.d (D.int IntKind.u32 (0)))) := by kernel_rfl
@[simp] theorem tk225 : tk Tryz.prog 225 = TK.int IntKind.u64 := by kernel_rfl
@[simp] theorem sz225 : sz Tryz.prog 225 = 1 := by kernel_rfl
@[simp] theorem byts225 : byts Tryz.prog 225 = 8 := by kernel_rfl
@[simp] theorem zer225 : zer Tryz.prog 225 = some ((AV.d (D.int IntKind.u64 (0)))) := by kernel_rfl
@[simp] theorem tk229 : tk Tryz.prog 229 = TK.other := by kernel_rfl
@[simp] theorem sz229 : sz Tryz.prog 229 = 1 := by kernel_rfl
@[simp] theorem byts229 : byts Tryz.prog 229 = 8 := by kernel_rfl
@[simp] theorem zer229 : zer Tryz.prog 229 = some (AV.undef) := by kernel_rfl
@[simp] theorem fb3 : fbody Tryz.prog 3 = some ⟨bodyOf Tryz.f3, 129, [.tmp 8]⟩ := by kernel_rfl
@[simp] theorem fb4 : fbody Tryz.prog 4 = some ⟨bodyOf Tryz.f4, 327, [.tmp 2]⟩ := by kernel_rfl
@[simp] theorem fb5 : fbody Tryz.prog 5 = some ⟨bodyOf Tryz.f5, 177, [.tmp 2]⟩ := by kernel_rfl
@[simp] theorem fb6 : fbody Tryz.prog 6 = some ⟨bodyOf Tryz.f6, 339, [.tmp 2]⟩ := by kernel_rfl
@[simp] theorem fb7 : fbody Tryz.prog 7 = some ⟨bodyOf Tryz.f7, 12, [.tmp 4]⟩ := by kernel_rfl
@[simp] theorem fb8 : fbody Tryz.prog 8 = some ⟨bodyOf Tryz.f8, 12, [.tmp 4]⟩ := by kernel_rfl
@[simp] theorem fb9 : fbody Tryz.prog 9 = some ⟨bodyOf Tryz.f9, 169, [.tmp 8, .tmp 9]⟩ := by kernel_rfl
@[simp] theorem fb10 : fbody Tryz.prog 10 = some ⟨bodyOf Tryz.f10, 9, [.cell 2 32]⟩ := by kernel_rfl
@[simp] theorem fb11 : fbody Tryz.prog 11 = some ⟨bodyOf Tryz.f11, 12, [.cell 2 34]⟩ := by kernel_rfl
@[simp] theorem fb12 : fbody Tryz.prog 12 = some ⟨bodyOf Tryz.f12, 75, [.tmp 8, .tmp 9]⟩ := by kernel_rfl
@[simp] theorem fb13 : fbody Tryz.prog 13 = some ⟨bodyOf Tryz.f13, 26, [.tmp 4]⟩ := by kernel_rfl
@[simp] theorem fb14 : fbody Tryz.prog 14 = some ⟨bodyOf Tryz.f14, 11, [.tmp 4]⟩ := by kernel_rfl
@[simp] theorem fb15 : fbody Tryz.prog 15 = some ⟨bodyOf Tryz.f15, 16, [.tmp 4]⟩ := by kernel_rfl
@[simp] theorem fb16 : fbody Tryz.prog 16 = some ⟨bodyOf Tryz.f16, 10, [.tmp 4]⟩ := by kernel_rfl
@[simp] theorem fb17 : fbody Tryz.prog 17 = some ⟨bodyOf Tryz.f17, 10, [.tmp 4]⟩ := by kernel_rfl
@[simp] theorem fb18 : fbody Tryz.prog 18 = some ⟨bodyOf Tryz.f18, 19, [.tmp 4]⟩ := by kernel_rfl
@[simp] theorem fb19 : fbody Tryz.prog 19 = some ⟨bodyOf Tryz.f19, 21, [.tmp 4]⟩ := by kernel_rfl
@[simp] theorem fb20 : fbody Tryz.prog 20 = some ⟨bodyOf Tryz.f20, 6, [.tmp 2]⟩ := by kernel_rfl
@[simp] theorem fb21 : fbody Tryz.prog 21 = some ⟨bodyOf Tryz.f21, 12, [.cell 2 32, .cell 3 34, .tmp 4, .cell 5 46]⟩ := by kernel_rfl
@[simp] theorem fb22 : fbody Tryz.prog 22 = some ⟨bodyOf Tryz.f22, 51, [.cell 8 46, .tmp 9]⟩ := by kernel_rfl
@[simp] theorem fb23 : fbody Tryz.prog 23 = some ⟨bodyOf Tryz.f23, 51, [.cell 8 46, .tmp 9]⟩ := by kernel_rfl
@[simp] theorem fb24 : fbody Tryz.prog 24 = some ⟨bodyOf Tryz.f24, 17, [.tmp 4]⟩ := by kernel_rfl
@[simp] theorem fb25 : fbody Tryz.prog 25 = some ⟨bodyOf Tryz.f25, 33, [.cell 8 46, .tmp 9]⟩ := by kernel_rfl
@[simp] theorem fb26 : fbody Tryz.prog 26 = some ⟨bodyOf Tryz.f26, 27, [.cell 8 46, .tmp 9]⟩ := by kernel_rfl
@[simp] theorem fb27 : fbody Tryz.prog 27 = some ⟨bodyOf Tryz.f27, 21, [.cell 2 32, .cell 3 34, .tmp 4, .cell 5 46]⟩ := by kernel_rfl
@[simp] theorem fb28 : fbody Tryz.prog 28 = some ⟨bodyOf Tryz.f28, 34, [.cell 8 46, .tmp 9]⟩ := by kernel_rfl
@[simp] theorem fb29 : fbody Tryz.prog 29 = some ⟨bodyOf Tryz.f29, 27, [.cell 8 46, .tmp 9]⟩ := by kernel_rfl
@[simp] theorem fb30 : fbody Tryz.prog 30 = some ⟨bodyOf Tryz.f30, 21, [.cell 2 32, .cell 3 34, .tmp 4, .cell 5 46]⟩ := by kernel_rfl
@[simp] theorem fb31 : fbody Tryz.prog 31 = some ⟨bodyOf Tryz.f31, 31, [.cell 8 46, .tmp 9]⟩ := by kernel_rfl
@[simp] theorem fb32 : fbody Tryz.prog 32 = some ⟨bodyOf Tryz.f32, 35, [.cell 8 46, .tmp 9]⟩ := by kernel_rfl
@[simp] theorem fb33 : fbody Tryz.prog 33 = some ⟨bodyOf Tryz.f33, 21, [.cell 6 34, .tmp 7]⟩ := by kernel_rfl
@[simp] theorem fb34 : fbody Tryz.prog 34 = some ⟨bodyOf Tryz.f34, 20, [.cell 6 34, .tmp 7]⟩ := by kernel_rfl
@[simp] theorem fb35 : fbody Tryz.prog 35 = some ⟨bodyOf Tryz.f35, 17, [.tmp 4]⟩ := by kernel_rfl
@[simp] theorem fb36 : fbody Tryz.prog 36 = some ⟨bodyOf Tryz.f36, 24, [.cell 6 34, .tmp 7]⟩ := by kernel_rfl
@[simp] theorem fb37 : fbody Tryz.prog 37 = some ⟨bodyOf Tryz.f37, 23, [.cell 6 34, .tmp 7]⟩ := by kernel_rfl
@[simp] theorem fb38 : fbody Tryz.prog 38 = some ⟨bodyOf Tryz.f38, 18, [.tmp 2]⟩ := by kernel_rfl
@[simp] theorem fb39 : fbody Tryz.prog 39 = some ⟨bodyOf Tryz.f39, 21, [.tmp 6, .tmp 7]⟩ := by kernel_rfl
@[simp] theorem fb40 : fbody Tryz.prog 40 = some ⟨bodyOf Tryz.f40, 26, [.cell 6 46, .tmp 7]⟩ := by kernel_rfl
@[simp] theorem fb41 : fbody Tryz.prog 41 = some ⟨bodyOf Tryz.f41, 26, [.cell 2 32, .cell 3 34, .tmp 4, .tmp 5]⟩ := by kernel_rfl
@[simp] theorem fb42 : fbody Tryz.prog 42 = some ⟨bodyOf Tryz.f42, 26, [.tmp 4]⟩ := by kernel_rfl
@[simp] theorem fb43 : fbody Tryz.prog 43 = some ⟨bodyOf Tryz.f43, 25, [.tmp 6, .tmp 7]⟩ := by kernel_rfl
@[simp] theorem fb44 : fbody Tryz.prog 44 = some ⟨bodyOf Tryz.f44, 59, [.cell 2 32, .tmp 3, .cell 4 34, .cell 5 46]⟩ := by kernel_rfl
@[simp] theorem fb45 : fbody Tryz.prog 45 = some ⟨bodyOf Tryz.f45, 58, [.cell 8 34, .cell 9 46, .tmp 10]⟩ := by kernel_rfl
@[simp] theorem fb46 : fbody Tryz.prog 46 = some ⟨bodyOf Tryz.f46, 58, [.cell 8 34, .cell 9 46, .tmp 10]⟩ := by kernel_rfl
@[simp] theorem fb47 : fbody Tryz.prog 47 = some ⟨bodyOf Tryz.f47, 17, [.tmp 4]⟩ := by kernel_rfl
@[simp] theorem fb48 : fbody Tryz.prog 48 = some ⟨bodyOf Tryz.f48, 17, [.tmp 4]⟩ := by kernel_rfl
@[simp] theorem fb49 : fbody Tryz.prog 49 = some ⟨bodyOf Tryz.f49, 30, [.cell 4 32, .tmp 5, .tmp 6]⟩ := by kernel_rfl
@[simp] theorem fb50 : fbody Tryz.prog 50 = some ⟨bodyOf Tryz.f50, 43, [.cell 8 46, .tmp 9]⟩ := by kernel_rfl
@[simp] theorem fb51 : fbody Tryz.prog 51 = some ⟨bodyOf Tryz.f51, 17, [.cell 2 32, .tmp 3, .tmp 4]⟩ := by kernel_rfl
@[simp] theorem fb52 : fbody Tryz.prog 52 = some ⟨bodyOf Tryz.f52, 31, [.tmp 6, .tmp 7]⟩ := by kernel_rfl
@[simp] theorem fb53 : fbody Tryz.prog 53 = some ⟨bodyOf Tryz.f53, 33, [.tmp 6, .tmp 7]⟩ := by kernel_rfl
@[simp] theorem fb54 : fbody Tryz.prog 54 = some ⟨bodyOf Tryz.f54, 26, [.tmp 6, .tmp 7]⟩ := by kernel_rfl
@[simp] theorem fb55 : fbody Tryz.prog 55 = some ⟨bodyOf Tryz.f55, 43, [.cell 2 32, .cell 3 34, .tmp 4, .cell 5 46, .tmp 6]⟩ := by kernel_rfl
@[simp] theorem fb56 : fbody Tryz.prog 56 = some ⟨bodyOf Tryz.f56, 54, [.cell 10 46, .tmp 11]⟩ := by kernel_rfl
@[simp] theorem fb57 : fbody Tryz.prog 57 = some ⟨bodyOf Tryz.f57, 123, [.cell 10 46, .tmp 11]⟩ := by kernel_rfl
@[simp] theorem fb58 : fbody Tryz.prog 58 = some ⟨bodyOf Tryz.f58, 17, [.cell 4 32, .tmp 5]⟩ := by kernel_rfl
@[simp] theorem fb59 : fbody Tryz.prog 59 = some ⟨bodyOf Tryz.f59, 21, [.cell 6 34, .tmp 7]⟩ := by kernel_rfl
@[simp] theorem fb60 : fbody Tryz.prog 60 = some ⟨bodyOf Tryz.f60, 27, [.tmp 4]⟩ := by kernel_rfl
@[simp] theorem fb61 : fbody Tryz.prog 61 = some ⟨bodyOf Tryz.f61, 12, [.tmp 4]⟩ := by kernel_rfl
@[simp] theorem fb62 : fbody Tryz.prog 62 = some ⟨bodyOf Tryz.f62, 31, [.tmp 6]⟩ := by kernel_rfl
@[simp] theorem fb63 : fbody Tryz.prog 63 = some ⟨bodyOf Tryz.f63, 15, [.tmp 6]⟩ := by kernel_rfl
@[simp] theorem fb64 : fbody Tryz.prog 64 = some ⟨bodyOf Tryz.f64, 26, [.tmp 6]⟩ := by kernel_rfl
@[simp] theorem fb65 : fbody Tryz.prog 65 = some ⟨bodyOf Tryz.f65, 30, [.cell 4 34]⟩ := by kernel_rfl
@[simp] theorem fb66 : fbody Tryz.prog 66 = some ⟨bodyOf Tryz.f66, 37, [.tmp 6, .tmp 7]⟩ := by kernel_rfl
@[simp] theorem fb67 : fbody Tryz.prog 67 = some ⟨bodyOf Tryz.f67, 31, [.cell 4 46]⟩ := by kernel_rfl
@[simp] theorem fb68 : fbody Tryz.prog 68 = some ⟨bodyOf Tryz.f68, 31, [.cell 4 46]⟩ := by kernel_rfl
@[simp] theorem fb69 : fbody Tryz.prog 69 = some ⟨bodyOf Tryz.f69, 37, [.cell 8 46]⟩ := by kernel_rfl
@[simp] theorem fb70 : fbody Tryz.prog 70 = some ⟨bodyOf Tryz.f70, 73, [.tmp 6]⟩ := by kernel_rfl
@[simp] theorem fb71 : fbody Tryz.prog 71 = some ⟨bodyOf Tryz.f71, 23, [.tmp 2]⟩ := by kernel_rfl
@[simp] theorem fb72 : fbody Tryz.prog 72 = some ⟨bodyOf Tryz.f72, 22, [.tmp 2]⟩ := by kernel_rfl
@[simp] theorem fb73 : fbody Tryz.prog 73 = some ⟨bodyOf Tryz.f73, 30, [.tmp 6]⟩ := by kernel_rfl
@[simp] theorem fb74 : fbody Tryz.prog 74 = some ⟨bodyOf Tryz.f74, 9, [.tmp 4]⟩ := by kernel_rfl
@[simp] theorem fb75 : fbody Tryz.prog 75 = some ⟨bodyOf Tryz.f75, 11, [.cell 6 34]⟩ := by kernel_rfl
@[simp] theorem fb76 : fbody Tryz.prog 76 = some ⟨bodyOf Tryz.f76, 51, [.tmp 12]⟩ := by kernel_rfl
@[simp] theorem fb77 : fbody Tryz.prog 77 = some ⟨bodyOf Tryz.f77, 7, [.cell 3 46]⟩ := by kernel_rfl
@[simp] theorem fb78 : fbody Tryz.prog 78 = some ⟨bodyOf Tryz.f78, 8, [.cell 4 46]⟩ := by kernel_rfl
@[simp] theorem fb79 : fbody Tryz.prog 79 = some ⟨bodyOf Tryz.f79, 7, [.cell 3 46]⟩ := by kernel_rfl
@[simp] theorem fb80 : fbody Tryz.prog 80 = some ⟨bodyOf Tryz.f80, 8, [.cell 4 46]⟩ := by kernel_rfl
@[simp] theorem fb81 : fbody Tryz.prog 81 = some ⟨bodyOf Tryz.f81, 11, [.cell 5 46]⟩ := by kernel_rfl
@[simp] theorem fb82 : fbody Tryz.prog 82 = some ⟨bodyOf Tryz.f82, 20, [.cell 8 46]⟩ := by kernel_rfl
@[simp] theorem fb83 : fbody Tryz.prog 83 = some ⟨bodyOf Tryz.f83, 27, [.tmp 4]⟩ := by kernel_rfl
@[simp] theorem fb84 : fbody Tryz.prog 84 = some ⟨bodyOf Tryz.f84, 19, [.tmp 4]⟩ := by kernel_rfl
@[simp] theorem fb85 : fbody Tryz.prog 85 = some ⟨bodyOf Tryz.f85, 21, [.cell 2 32, .cell 3 34, .tmp 4, .cell 5 46]⟩ := by kernel_rfl
@[simp] theorem fb86 : fbody Tryz.prog 86 = some ⟨bodyOf Tryz.f86, 27, [.tmp 6]⟩ := by kernel_rfl
@[simp] theorem fb87 : fbody Tryz.prog 87 = some ⟨bodyOf Tryz.f87, 22, [.tmp 6]⟩ := by kernel_rfl
@[simp] theorem fb88 : fbody Tryz.prog 88 = some ⟨bodyOf Tryz.f88, 26, [.tmp 10]⟩ := by kernel_rfl
@[simp] theorem fb89 : fbody Tryz.prog 89 = some ⟨bodyOf Tryz.f89, 28, [.tmp 6]⟩ := by kernel_rfl
@[simp] theorem fb90 : fbody Tryz.prog 90 = some ⟨bodyOf Tryz.f90, 119, [.cell 4 32, .cell 5 34, .tmp 6, .cell 7 46]⟩ := by kernel_rfl
@[simp] theorem fb91 : fbody Tryz.prog 91 = some ⟨bodyOf Tryz.f91, 31, [.tmp 6]⟩ := by kernel_rfl
@[simp] theorem fb92 : fbody Tryz.prog 92 = some ⟨bodyOf Tryz.f92, 26, [.tmp 6]⟩ := by kernel_rfl
@[simp] theorem fb93 : fbody Tryz.prog 93 = some ⟨bodyOf Tryz.f93, 15, [.cell 6 46]⟩ := by kernel_rfl
@[simp] theorem fb94 : fbody Tryz.prog 94 = some ⟨bodyOf Tryz.f94, 38, [.tmp 2]⟩ := by kernel_rfl
@[simp] theorem fb95 : fbody Tryz.prog 95 = some ⟨bodyOf Tryz.f95, 59, [.cell 2 32, .cell 3 34, .tmp 4]⟩ := by kernel_rfl
@[simp] theorem fb96 : fbody Tryz.prog 96 = some ⟨bodyOf Tryz.f96, 12, [.tmp 4]⟩ := by kernel_rfl
@[simp] theorem fb97 : fbody Tryz.prog 97 = some ⟨bodyOf Tryz.f97, 17, [.tmp 4]⟩ := by kernel_rfl
@[simp] theorem fb98 : fbody Tryz.prog 98 = some ⟨bodyOf Tryz.f98, 19, [.tmp 6]⟩ := by kernel_rfl
@[simp] theorem fb99 : fbody Tryz.prog 99 = some ⟨bodyOf Tryz.f99, 19, [.tmp 6]⟩ := by kernel_rfl
@[simp] theorem fb100 : fbody Tryz.prog 100 = some ⟨bodyOf Tryz.f100, 52, [.tmp 4]⟩ := by kernel_rfl
@[simp] theorem fb101 : fbody Tryz.prog 101 = some ⟨bodyOf Tryz.f101, 43, [.tmp 6]⟩ := by kernel_rfl
@[simp] theorem fb102 : fbody Tryz.prog 102 = some ⟨bodyOf Tryz.f102, 19, [.cell 2 32, .tmp 3]⟩ := by kernel_rfl
@[simp] theorem fb103 : fbody Tryz.prog 103 = some ⟨bodyOf Tryz.f103, 34, [.tmp 4]⟩ := by kernel_rfl
@[simp] theorem fb104 : fbody Tryz.prog 104 = some ⟨bodyOf Tryz.f104, 61, [.cell 4 32, .tmp 5]⟩ := by kernel_rfl
@[simp] theorem fb105 : fbody Tryz.prog 105 = some ⟨bodyOf Tryz.f105, 18, [.cell 6 34]⟩ := by kernel_rfl
@[simp] theorem fb106 : fbody Tryz.prog 106 = some ⟨bodyOf Tryz.f106, 6, [.tmp 2]⟩ := by kernel_rfl
@[simp] theorem fb107 : fbody Tryz.prog 107 = some ⟨bodyOf Tryz.f107, 54, [.cell 8 46]⟩ := by kernel_rfl
@[simp] theorem fb108 : fbody Tryz.prog 108 = some ⟨bodyOf Tryz.f108, 58, [.tmp 4]⟩ := by kernel_rfl
@[simp] theorem fb109 : fbody Tryz.prog 109 = some ⟨bodyOf Tryz.f109, 27, [.tmp 6]⟩ := by kernel_rfl
@[simp] theorem fb110 : fbody Tryz.prog 110 = some ⟨bodyOf Tryz.f110, 68, [.cell 4 32]⟩ := by kernel_rfl
@[simp] theorem fb111 : fbody Tryz.prog 111 = some ⟨bodyOf Tryz.f111, 44, [.cell 4 34]⟩ := by kernel_rfl
@[simp] theorem fb112 : fbody Tryz.prog 112 = some ⟨bodyOf Tryz.f112, 52, [.cell 6 46]⟩ := by kernel_rfl
@[simp] theorem fb113 : fbody Tryz.prog 113 = some ⟨bodyOf Tryz.f113, 16, [.tmp 4]⟩ := by kernel_rfl
@[simp] theorem fb114 : fbody Tryz.prog 114 = some ⟨bodyOf Tryz.f114, 28, [.tmp 4]⟩ := by kernel_rfl
@[simp] theorem fb115 : fbody Tryz.prog 115 = some ⟨bodyOf Tryz.f115, 19, [.cell 4 32, .tmp 5]⟩ := by kernel_rfl
@[simp] theorem fb116 : fbody Tryz.prog 116 = some ⟨bodyOf Tryz.f116, 23, [.cell 10 34, .cell 11 46]⟩ := by kernel_rfl
@[simp] theorem fb117 : fbody Tryz.prog 117 = some ⟨bodyOf Tryz.f117, 16, [.tmp 4]⟩ := by kernel_rfl
@[simp] theorem fb118 : fbody Tryz.prog 118 = some ⟨bodyOf Tryz.f118, 85, [.cell 10 34, .cell 11 46]⟩ := by kernel_rfl
@[simp] theorem fb119 : fbody Tryz.prog 119 = some ⟨bodyOf Tryz.f119, 31, [.tmp 8]⟩ := by kernel_rfl
@[simp] theorem fb120 : fbody Tryz.prog 120 = some ⟨bodyOf Tryz.f120, 9, [.cell 4 32]⟩ := by kernel_rfl
@[simp] theorem fb121 : fbody Tryz.prog 121 = some ⟨bodyOf Tryz.f121, 30, [.cell 2 32, .tmp 3, .tmp 4]⟩ := by kernel_rfl
@[simp] theorem fb122 : fbody Tryz.prog 122 = some ⟨bodyOf Tryz.f122, 14, [.tmp 4]⟩ := by kernel_rfl
@[simp] theorem fb123 : fbody Tryz.prog 123 = some ⟨bodyOf Tryz.f123, 21, [.tmp 4]⟩ := by kernel_rfl
@[simp] theorem fb124 : fbody Tryz.prog 124 = some ⟨bodyOf Tryz.f124, 6, [.tmp 2]⟩ := by kernel_rfl
@[simp] theorem fb125 : fbody Tryz.prog 125 = some ⟨bodyOf Tryz.f125, 10, [.tmp 4]⟩ := by kernel_rfl
@[simp] theorem fb126 : fbody Tryz.prog 126 = some ⟨bodyOf Tryz.f126, 14, [.tmp 6]⟩ := by kernel_rfl
@[simp] theorem fb127 : fbody Tryz.prog 127 = some ⟨bodyOf Tryz.f127, 29, [.tmp 4]⟩ := by kernel_rfl
@[simp] theorem fb128 : fbody Tryz.prog 128 = some ⟨bodyOf Tryz.f128, 24, [.tmp 4]⟩ := by kernel_rfl
@[simp] theorem fb129 : fbody Tryz.prog 129 = some ⟨bodyOf Tryz.f129, 28, [.tmp 6]⟩ := by kernel_rfl
@[simp] theorem fb130 : fbody Tryz.prog 130 = some ⟨bodyOf Tryz.f130, 15, [.tmp 4]⟩ := by kernel_rfl
@[simp] theorem fb131 : fbody Tryz.prog 131 = some ⟨bodyOf Tryz.f131, 29, [.tmp 6]⟩ := by kernel_rfl
@[simp] theorem fb132 : fbody Tryz.prog 132 = some ⟨bodyOf Tryz.f132, 62, [.cell 4 32, .cell 5 34, .tmp 6, .cell 7 46]⟩ := by kernel_rfl
@[simp] theorem fb133 : fbody Tryz.prog 133 = some ⟨bodyOf Tryz.f133, 6, [.tmp 2]⟩ := by kernel_rfl
@[simp] theorem fb134 : fbody Tryz.prog 134 = some ⟨bodyOf Tryz.f134, 13, [.cell 6 34]⟩ := by kernel_rfl
@[simp] theorem fb135 : fbody Tryz.prog 135 = some ⟨bodyOf Tryz.f135, 11, [.tmp 4]⟩ := by kernel_rfl
@[simp] theorem fb136 : fbody Tryz.prog 136 = some ⟨bodyOf Tryz.f136, 38, [.cell 8 46]⟩ := by kernel_rfl
@[simp] theorem fb137 : fbody Tryz.prog 137 = some ⟨bodyOf Tryz.f137, 23, [.tmp 10]⟩ := by kernel_rfl
@[simp] theorem fb138 : fbody Tryz.prog 138 = some ⟨bodyOf Tryz.f138, 18, [.tmp 6]⟩ := by kernel_rfl
@[simp] theorem fb139 : fbody Tryz.prog 139 = some ⟨bodyOf Tryz.f139, 23, [.tmp 4]⟩ := by kernel_rfl
@[simp] theorem fb140 : fbody Tryz.prog 140 = some ⟨bodyOf Tryz.f140, 16, [.tmp 6]⟩ := by kernel_rfl
@[simp] theorem fb141 : fbody Tryz.prog 141 = some ⟨bodyOf Tryz.f141, 19, [.tmp 4]⟩ := by kernel_rfl
@[simp] theorem fb142 : fbody Tryz.prog 142 = some ⟨bodyOf Tryz.f142, 15, [.tmp 6]⟩ := by kernel_rfl
@[simp] theorem fb143 : fbody Tryz.prog 143 = some ⟨bodyOf Tryz.f143, 137, [.tmp 2]⟩ := by kernel_rfl
@[simp] theorem fb144 : fbody Tryz.prog 144 = some ⟨bodyOf Tryz.f144, 90, [.tmp 4]⟩ := by kernel_rfl
@[simp] theorem fb145 : fbody Tryz.prog 145 = some ⟨bodyOf Tryz.f145, 50, [.cell 4 32]⟩ := by kernel_rfl
@[simp] theorem fb146 : fbody Tryz.prog 146 = some ⟨bodyOf Tryz.f146, 39, [.tmp 6]⟩ := by kernel_rfl
@[simp] theorem fb147 : fbody Tryz.prog 147 = some ⟨bodyOf Tryz.f147, 31, [.cell 4 34]⟩ := by kernel_rfl
@[simp] theorem fb148 : fbody Tryz.prog 148 = some ⟨bodyOf Tryz.f148, 22, [.tmp 4]⟩ := by kernel_rfl
@[simp] theorem fb149 : fbody Tryz.prog 149 = some ⟨bodyOf Tryz.f149, 32, [.tmp 6]⟩ := by kernel_rfl
@[simp] theorem fb150 : fbody Tryz.prog 150 = some ⟨bodyOf Tryz.f150, 19, [.tmp 4]⟩ := by kernel_rfl
@[simp] theorem fb151 : fbody Tryz.prog 151 = some ⟨bodyOf Tryz.f151, 24, [.tmp 6]⟩ := by kernel_rfl
@[simp] theorem fb152 : fbody Tryz.prog 152 = some ⟨bodyOf Tryz.f152, 12, [.tmp 4]⟩ := by kernel_rfl
@[simp] theorem fb153 : fbody Tryz.prog 153 = some ⟨bodyOf Tryz.f153, 36, [.tmp 6]⟩ := by kernel_rfl
@[simp] theorem fb154 : fbody Tryz.prog 154 = some ⟨bodyOf Tryz.f154, 16, [.tmp 4]⟩ := by kernel_rfl
@[simp] theorem fb155 : fbody Tryz.prog 155 = some ⟨bodyOf Tryz.f155, 77, [.tmp 6, .tmp 7, .tmp 8]⟩ := by kernel_rfl
@[simp] theorem fb156 : fbody Tryz.prog 156 = some ⟨bodyOf Tryz.f156, 37, [.cell 6 46]⟩ := by kernel_rfl
@[simp] theorem fb157 : fbody Tryz.prog 157 = some ⟨bodyOf Tryz.f157, 147, []⟩ := by kernel_rfl
@[simp] theorem fb158 : fbody Tryz.prog 158 = some ⟨bodyOf Tryz.f158, 36, [.tmp 4]⟩ := by kernel_rfl
@[simp] theorem fb159 : fbody Tryz.prog 159 = some ⟨bodyOf Tryz.f159, 9, [.tmp 4]⟩ := by kernel_rfl
@[simp] theorem fb160 : fbody Tryz.prog 160 = some ⟨bodyOf Tryz.f160, 10, [.tmp 4]⟩ := by kernel_rfl
@[simp] theorem fb161 : fbody Tryz.prog 161 = some ⟨bodyOf Tryz.f161, 26, [.cell 6 34]⟩ := by kernel_rfl
@[simp] theorem fb162 : fbody Tryz.prog 162 = some ⟨bodyOf Tryz.f162, 12, [.tmp 4]⟩ := by kernel_rfl
@[simp] theorem fb163 : fbody Tryz.prog 163 = some ⟨bodyOf Tryz.f163, 140, []⟩ := by kernel_rfl
@[simp] theorem fb164 : fbody Tryz.prog 164 = some ⟨bodyOf Tryz.f164, 12, [.cell 4 46]⟩ := by kernel_rfl
@[simp] theorem fb165 : fbody Tryz.prog 165 = some ⟨bodyOf Tryz.f165, 7, [.tmp 3]⟩ := by kernel_rfl
@[simp] theorem fb166 : fbody Tryz.prog 166 = some ⟨bodyOf Tryz.f166, 7, [.tmp 3]⟩ := by kernel_rfl
@[simp] theorem fb167 : fbody Tryz.prog 167 = some ⟨bodyOf Tryz.f167, 7, [.tmp 3]⟩ := by kernel_rfl
@[simp] theorem fb168 : fbody Tryz.prog 168 = some ⟨bodyOf Tryz.f168, 9, [.tmp 2]⟩ := by kernel_rfl
@[simp] theorem fb169 : fbody Tryz.prog 169 = some ⟨bodyOf Tryz.f169, 85, [.tmp 8]⟩ := by kernel_rfl
@[simp] theorem fb170 : fbody Tryz.prog 170 = some ⟨bodyOf Tryz.f170, 41, [.tmp 10]⟩ := by kernel_rfl
@[simp] theorem fb171 : fbody Tryz.prog 171 = some ⟨bodyOf Tryz.f171, 23, [.tmp 4]⟩ := by kernel_rfl
@[simp] theorem fb172 : fbody Tryz.prog 172 = some ⟨bodyOf Tryz.f172, 11, [.tmp 5]⟩ := by kernel_rfl
@[simp] theorem fb173 : fbody Tryz.prog 173 = some ⟨bodyOf Tryz.f173, 79, [.tmp 8]⟩ := by kernel_rfl
@[simp] theorem fb174 : fbody Tryz.prog 174 = some ⟨bodyOf Tryz.f174, 28, [.cell 2 32]⟩ := by kernel_rfl
@[simp] theorem fb175 : fbody Tryz.prog 175 = some ⟨bodyOf Tryz.f175, 7, [.cell 2 32]⟩ := by kernel_rfl
@[simp] theorem fb176 : fbody Tryz.prog 176 = some ⟨bodyOf Tryz.f176, 17, [.tmp 6]⟩ := by kernel_rfl
@[simp] theorem fb177 : fbody Tryz.prog 177 = some ⟨bodyOf Tryz.f177, 51, [.tmp 6, .tmp 7]⟩ := by kernel_rfl
@[simp] theorem fb178 : fbody Tryz.prog 178 = some ⟨bodyOf Tryz.f178, 55, [.tmp 4]⟩ := by kernel_rfl
@[simp] theorem fb179 : fbody Tryz.prog 179 = some ⟨bodyOf Tryz.f179, 36, [.tmp 2]⟩ := by kernel_rfl
@[simp] theorem fb180 : fbody Tryz.prog 180 = some ⟨bodyOf Tryz.f180, 16, [.tmp 4]⟩ := by kernel_rfl
@[simp] theorem fb181 : fbody Tryz.prog 181 = some ⟨bodyOf Tryz.f181, 10, [.tmp 4]⟩ := by kernel_rfl
@[simp] theorem fb182 : fbody Tryz.prog 182 = some ⟨bodyOf Tryz.f182, 11, [.cell 4 46]⟩ := by kernel_rfl
@[simp] theorem fb183 : fbody Tryz.prog 183 = some ⟨bodyOf Tryz.f183, 28, [.cell 2 32]⟩ := by kernel_rfl
@[simp] theorem fb184 : fbody Tryz.prog 184 = some ⟨bodyOf Tryz.f184, 55, [.tmp 2]⟩ := by kernel_rfl
@[simp] theorem fb185 : fbody Tryz.prog 185 = some ⟨bodyOf Tryz.f185, 6, [.tmp 2]⟩ := by kernel_rfl
@[simp] theorem fb186 : fbody Tryz.prog 186 = some ⟨bodyOf Tryz.f186, 20, [.tmp 2]⟩ := by kernel_rfl
@[simp] theorem fb187 : fbody Tryz.prog 187 = some ⟨bodyOf Tryz.f187, 61, [.tmp 4, .tmp 5]⟩ := by kernel_rfl
@[simp] theorem fb188 : fbody Tryz.prog 188 = some ⟨bodyOf Tryz.f188, 10, [.tmp 4]⟩ := by kernel_rfl
@[simp] theorem fb189 : fbody Tryz.prog 189 = some ⟨bodyOf Tryz.f189, 11, [.cell 4 46]⟩ := by kernel_rfl
@[simp] theorem fb190 : fbody Tryz.prog 190 = some ⟨bodyOf Tryz.f190, 31, [.tmp 4]⟩ := by kernel_rfl
@[simp] theorem fb191 : fbody Tryz.prog 191 = some ⟨bodyOf Tryz.f191, 26, [.cell 2 32]⟩ := by kernel_rfl
@[simp] theorem fb192 : fbody Tryz.prog 192 = some ⟨bodyOf Tryz.f192, 9, [.tmp 4]⟩ := by kernel_rfl
@[simp] theorem fb193 : fbody Tryz.prog 193 = some ⟨bodyOf Tryz.f193, 50, [.tmp 4, .tmp 5]⟩ := by kernel_rfl
@[simp] theorem fb194 : fbody Tryz.prog 194 = some ⟨bodyOf Tryz.f194, 35, [.cell 4 32]⟩ := by kernel_rfl
@[simp] theorem fb195 : fbody Tryz.prog 195 = some ⟨bodyOf Tryz.f195, 22, [.tmp 7]⟩ := by kernel_rfl
@[simp] theorem fb196 : fbody Tryz.prog 196 = some ⟨bodyOf Tryz.f196, 24, [.tmp 4]⟩ := by kernel_rfl
@[simp] theorem fb197 : fbody Tryz.prog 197 = some ⟨bodyOf Tryz.f197, 12, [.cell 6 34]⟩ := by kernel_rfl
@[simp] theorem fb198 : fbody Tryz.prog 198 = some ⟨bodyOf Tryz.f198, 12, [.tmp 5]⟩ := by kernel_rfl
@[simp] theorem fb199 : fbody Tryz.prog 199 = some ⟨bodyOf Tryz.f199, 8, [.tmp 3]⟩ := by kernel_rfl
@[simp] theorem fb200 : fbody Tryz.prog 200 = some ⟨bodyOf Tryz.f200, 23, [.tmp 4]⟩ := by kernel_rfl
@[simp] theorem fb201 : fbody Tryz.prog 201 = some ⟨bodyOf Tryz.f201, 30, [.tmp 4]⟩ := by kernel_rfl
@[simp] theorem fb202 : fbody Tryz.prog 202 = some ⟨bodyOf Tryz.f202, 20, [.tmp 6]⟩ := by kernel_rfl
@[simp] theorem fb203 : fbody Tryz.prog 203 = some ⟨bodyOf Tryz.f203, 110, [.tmp 2]⟩ := by kernel_rfl
@[simp] theorem fb204 : fbody Tryz.prog 204 = some ⟨bodyOf Tryz.f204, 26, [.tmp 4]⟩ := by kernel_rfl
@[simp] theorem fb205 : fbody Tryz.prog 205 = some ⟨bodyOf Tryz.f205, 43, [.tmp 4]⟩ := by kernel_rfl
@[simp] theorem fb206 : fbody Tryz.prog 206 = some ⟨bodyOf Tryz.f206, 9, [.tmp 4]⟩ := by kernel_rfl
@[simp] theorem fb207 : fbody Tryz.prog 207 = some ⟨bodyOf Tryz.f207, 11, []⟩ := by kernel_rfl
@[simp] theorem fb208 : fbody Tryz.prog 208 = some ⟨bodyOf Tryz.f208, 21, [.tmp 2]⟩ := by kernel_rfl
@[simp] theorem fb209 : fbody Tryz.prog 209 = some ⟨bodyOf Tryz.f209, 18, [.tmp 4]⟩ := by kernel_rfl
@[simp] theorem fb210 : fbody Tryz.prog 210 = some ⟨bodyOf Tryz.f210, 95, [.tmp 6]⟩ := by kernel_rfl
@[simp] theorem fb211 : fbody Tryz.prog 211 = some ⟨bodyOf Tryz.f211, 32, [.tmp 6]⟩ := by kernel_rfl
@[simp] theorem fb212 : fbody Tryz.prog 212 = some ⟨bodyOf Tryz.f212, 26, [.tmp 4]⟩ := by kernel_rfl
@[simp] theorem fb213 : fbody Tryz.prog 213 = some ⟨bodyOf Tryz.f213, 17, [.tmp 4]⟩ := by kernel_rfl
@[simp] theorem fb214 : fbody Tryz.prog 214 = some ⟨bodyOf Tryz.f214, 25, [.tmp 6]⟩ := by kernel_rfl
@[simp] theorem fb215 : fbody Tryz.prog 215 = some ⟨bodyOf Tryz.f215, 58, [.tmp 6]⟩ := by kernel_rfl
@[simp] theorem fb216 : fbody Tryz.prog 216 = some ⟨bodyOf Tryz.f216, 40, [.tmp 6]⟩ := by kernel_rfl
@[simp] theorem fb217 : fbody Tryz.prog 217 = some ⟨bodyOf Tryz.f217, 43, [.tmp 4, .tmp 5, .tmp 6]⟩ := by kernel_rfl
@[simp] theorem fb218 : fbody Tryz.prog 218 = some ⟨bodyOf Tryz.f218, 14, [.tmp 4]⟩ := by kernel_rfl
@[simp] theorem fb219 : fbody Tryz.prog 219 = some ⟨bodyOf Tryz.f219, 19, [.tmp 4]⟩ := by kernel_rfl
@[simp] theorem fb220 : fbody Tryz.prog 220 = some ⟨bodyOf Tryz.f220, 5, [.tmp 2]⟩ := by kernel_rfl
@[simp] theorem fb221 : fbody Tryz.prog 221 = some ⟨bodyOf Tryz.f221, 54, [.tmp 10]⟩ := by kernel_rfl
@[simp] theorem fb222 : fbody Tryz.prog 222 = some ⟨bodyOf Tryz.f222, 55, [.tmp 6, .tmp 7, .tmp 8]⟩ := by kernel_rfl
@[simp] theorem fb223 : fbody Tryz.prog 223 = some ⟨bodyOf Tryz.f223, 77, [.tmp 4]⟩ := by kernel_rfl
@[simp] theorem fb224 : fbody Tryz.prog 224 = some ⟨bodyOf Tryz.f224, 57, [.cell 2 32, .tmp 3]⟩ := by kernel_rfl
@[simp] theorem fb225 : fbody Tryz.prog 225 = some ⟨bodyOf Tryz.f225, 49, [.cell 4 32]⟩ := by kernel_rfl
@[simp] theorem fb226 : fbody Tryz.prog 226 = some ⟨bodyOf Tryz.f226, 28, [.tmp 4]⟩ := by kernel_rfl
@[simp] theorem fb227 : fbody Tryz.prog 227 = some ⟨bodyOf Tryz.f227, 36, [.tmp 2]⟩ := by kernel_rfl
@[simp] theorem fb228 : fbody Tryz.prog 228 = some ⟨bodyOf Tryz.f228, 2, [.tmp 0]⟩ := by kernel_rfl
@[simp] theorem fb229 : fbody Tryz.prog 229 = some ⟨bodyOf Tryz.f229, 51, [.tmp 4]⟩ := by kernel_rfl
@[simp] theorem fb230 : fbody Tryz.prog 230 = some ⟨bodyOf Tryz.f230, 40, [.tmp 4]⟩ := by kernel_rfl
@[simp] theorem fb231 : fbody Tryz.prog 231 = some ⟨bodyOf Tryz.f231, 95, [.tmp 8]⟩ := by kernel_rfl
@[simp] theorem fb232 : fbody Tryz.prog 232 = some ⟨bodyOf Tryz.f232, 48, [.tmp 4]⟩ := by kernel_rfl
@[simp] theorem fb233 : fbody Tryz.prog 233 = some ⟨bodyOf Tryz.f233, 13, [.tmp 4]⟩ := by kernel_rfl
@[simp] theorem fb234 : fbody Tryz.prog 234 = some ⟨bodyOf Tryz.f234, 134, []⟩ := by kernel_rfl
@[simp] theorem fb235 : fbody Tryz.prog 235 = some ⟨bodyOf Tryz.f235, 8, [.tmp 2]⟩ := by kernel_rfl
@[simp] theorem fb236 : fbody Tryz.prog 236 = some ⟨bodyOf Tryz.f236, 12, [.tmp 4]⟩ := by kernel_rfl
@[simp] theorem fb237 : fbody Tryz.prog 237 = some ⟨bodyOf Tryz.f237, 9, [.tmp 2]⟩ := by kernel_rfl
@[simp] theorem fb238 : fbody Tryz.prog 238 = some ⟨bodyOf Tryz.f238, 18, [.tmp 4]⟩ := by kernel_rfl
@[simp] theorem fb239 : fbody Tryz.prog 239 = some ⟨bodyOf Tryz.f239, 35, [.cell 2 32]⟩ := by kernel_rfl
@[simp] theorem fb240 : fbody Tryz.prog 240 = some ⟨bodyOf Tryz.f240, 68, [.cell 4 32]⟩ := by kernel_rfl
@[simp] theorem fb241 : fbody Tryz.prog 241 = some ⟨bodyOf Tryz.f241, 75, [.cell 4 32]⟩ := by kernel_rfl
@[simp] theorem fb242 : fbody Tryz.prog 242 = some ⟨bodyOf Tryz.f242, 30, [.tmp 4]⟩ := by kernel_rfl
@[simp] theorem fb243 : fbody Tryz.prog 243 = some ⟨bodyOf Tryz.f243, 27, [.tmp 4]⟩ := by kernel_rfl
@[simp] theorem fb244 : fbody Tryz.prog 244 = some ⟨bodyOf Tryz.f244, 30, [.tmp 4, .tmp 5]⟩ := by kernel_rfl
@[simp] theorem fb245 : fbody Tryz.prog 245 = some ⟨bodyOf Tryz.f245, 49, []⟩ := by kernel_rfl
@[simp] theorem fb246 : fbody Tryz.prog 246 = some ⟨bodyOf Tryz.f246, 56, []⟩ := by kernel_rfl
@[simp] theorem fb247 : fbody Tryz.prog 247 = some ⟨bodyOf Tryz.f247, 65, []⟩ := by kernel_rfl
@[simp] theorem fb248 : fbody Tryz.prog 248 = some ⟨bodyOf Tryz.f248, 57, [.tmp 6, .tmp 7]⟩ := by kernel_rfl
@[simp] theorem fb249 : fbody Tryz.prog 249 = some ⟨bodyOf Tryz.f249, 32, []⟩ := by kernel_rfl
@[simp] theorem fb250 : fbody Tryz.prog 250 = some ⟨bodyOf Tryz.f250, 133, [.tmp 6]⟩ := by kernel_rfl
@[simp] theorem fb251 : fbody Tryz.prog 251 = some ⟨bodyOf Tryz.f251, 17, [.tmp 4]⟩ := by kernel_rfl
@[simp] theorem fb252 : fbody Tryz.prog 252 = some ⟨bodyOf Tryz.f252, 84, [.tmp 8]⟩ := by kernel_rfl
@[simp] theorem fb253 : fbody Tryz.prog 253 = some ⟨bodyOf Tryz.f253, 168, [.tmp 8, .tmp 9]⟩ := by kernel_rfl
@[simp] theorem fb254 : fbody Tryz.prog 254 = some ⟨bodyOf Tryz.f254, 19, [.tmp 2]⟩ := by kernel_rfl
@[simp] theorem fb255 : fbody Tryz.prog 255 = some ⟨bodyOf Tryz.f255, 25, [.tmp 2]⟩ := by kernel_rfl
@[simp] theorem fb256 : fbody Tryz.prog 256 = some ⟨bodyOf Tryz.f256, 17, [.tmp 4, .tmp 5]⟩ := by kernel_rfl
@[simp] theorem fb257 : fbody Tryz.prog 257 = some ⟨bodyOf Tryz.f257, 51, [.tmp 4, .tmp 5]⟩ := by kernel_rfl
@[simp] theorem fb258 : fbody Tryz.prog 258 = some ⟨bodyOf Tryz.f258, 76, []⟩ := by kernel_rfl
@[simp] theorem fb259 : fbody Tryz.prog 259 = some ⟨bodyOf Tryz.f259, 7, [.tmp 2]⟩ := by kernel_rfl
@[simp] theorem fb260 : fbody Tryz.prog 260 = some ⟨bodyOf Tryz.f260, 33, [.tmp 2]⟩ := by kernel_rfl
@[simp] theorem fb261 : fbody Tryz.prog 261 = some ⟨bodyOf Tryz.f261, 15, [.tmp 6]⟩ := by kernel_rfl
@[simp] theorem fb262 : fbody Tryz.prog 262 = some ⟨bodyOf Tryz.f262, 36, [.tmp 10]⟩ := by kernel_rfl
@[simp] theorem fb263 : fbody Tryz.prog 263 = some ⟨bodyOf Tryz.f263, 6, [.tmp 2]⟩ := by kernel_rfl
@[simp] theorem fb264 : fbody Tryz.prog 264 = some ⟨bodyOf Tryz.f264, 28, [.tmp 8, .tmp 9]⟩ := by kernel_rfl
def annL : List (Nat × FAnn) := [
  (3, { own := [], keep := [] }),
  (4, { own := [], keep := [] }),
  (5, { own := [], keep := [] }),
  (6, { own := [], keep := [] }),
  (7, { own := [], keep := [] }),
  (8, { own := [], keep := [] }),
  (9, { own := [168], dat := [67, 74, 81, 89], unp := [111, 128, 149], keep := [(18, [2, 3, 4, 5, 11, 15, 16, 17, 18, 19, 20, 22, 23, 24, 25], [64, 80, 1072, 1073, 1074, 1075, 1184, 1185, 1186, 1187, 1296, 1297, 1298, 1299, 1424, 1425, 1426, 1427, 1472, 1488, 1504, 1872, 2144, 2464])] }),
  (10, { own := [], keep := [] }),
  (11, { own := [], keep := [] }),
  (12, { own := [74], keep := [] }),
  (13, { own := [], keep := [(4, [0, 1, 5], [])] }),
  (14, { own := [], keep := [] }),
  (15, { own := [], keep := [] }),
  (16, { own := [], keep := [] }),
  (17, { own := [], keep := [] }),
  (18, { own := [], keep := [(2, [0, 1, 5], [100000, 100001, 100002])] }),
  (19, { own := [], keep := [(2, [0, 1, 5], [])] }),
  (20, { own := [], keep := [] }),
  (21, { own := [], keep := [] }),
  (22, { own := [], keep := [] }),
  (23, { own := [], keep := [] }),
  (24, { own := [], keep := [] }),
  (25, { own := [], keep := [] }),
  (26, { own := [], keep := [] }),
  (27, { own := [], keep := [] }),
  (28, { own := [], keep := [] }),
  (29, { own := [], keep := [] }),
  (30, { own := [], keep := [] }),
  (31, { own := [], keep := [] }),
  (32, { own := [], keep := [] }),
  (33, { own := [], keep := [] }),
  (34, { own := [], keep := [] }),
  (35, { own := [], keep := [] }),
  (36, { own := [], keep := [] }),
  (37, { own := [], keep := [] }),
  (38, { own := [], keep := [(3, [0, 3, 4], [])] }),
  (39, { own := [], keep := [] }),
  (40, { own := [], keep := [] }),
  (41, { own := [], keep := [] }),
  (42, { own := [], keep := [(4, [0, 1, 5], [])] }),
  (43, { own := [], keep := [] }),
  (44, { own := [], keep := [] }),
  (45, { own := [], keep := [] }),
  (46, { own := [], keep := [] }),
  (47, { own := [], keep := [] }),
  (48, { own := [], keep := [] }),
  (49, { own := [], keep := [] }),
  (50, { own := [], keep := [] }),
  (51, { own := [], keep := [] }),
  (52, { own := [], keep := [] }),
  (53, { own := [], keep := [] }),
  (54, { own := [], keep := [] }),
  (55, { own := [], keep := [] }),
  (56, { own := [], keep := [] }),
  (57, { own := [69], keep := [(14, [2, 4, 5, 6, 8, 10, 13, 14, 15, 16, 17], [80, 96, 128, 160, 208, 256, 816, 817, 818, 819, 1008, 1009, 1010, 1011, 1104, 1920]), (18, [2, 4, 5, 6, 8, 10, 13, 14, 15, 16, 17, 18, 19], [80, 96, 128, 160, 208, 256, 816, 817, 818, 819, 1008, 1009, 1010, 1011, 1104, 1312, 1313, 1314, 1315, 1920])] }),
  (58, { own := [], keep := [] }),
  (59, { own := [], keep := [] }),
  (60, { own := [], keep := [(5, [0, 1, 5], [])] }),
  (61, { own := [], keep := [] }),
  (62, { own := [], keep := [] }),
  (63, { own := [], keep := [] }),
  (64, { own := [], keep := [] }),
  (65, { own := [8], keep := [(3, [1, 2, 4, 5, 6], [32, 64, 80, 128, 432])] }),
  (66, { own := [23], keep := [] }),
  (67, { own := [9], keep := [(3, [1, 2, 4, 5, 6], [32, 64, 80, 144, 448])] }),
  (68, { own := [9], keep := [(3, [1, 2, 4, 5, 6], [32, 64, 80, 144, 448])] }),
  (69, { own := [], keep := [(3, [2, 5, 8, 9, 10], [80, 128, 144, 224, 225, 226, 227])] }),
  (70, { own := [16], unp := [33, 46], keep := [(3, [0, 1, 2, 7, 8, 9], [256]), (8, [0, 1, 2, 7, 8, 10], [256]), (13, [8, 11, 12, 13], [816, 817, 818, 819, 864, 865, 866, 867])] }),
  (71, { own := [], keep := [(3, [0, 3, 4], [112, 320, 321, 322, 323])] }),
  (72, { own := [], keep := [(3, [0, 3, 4], [112])] }),
  (73, { own := [], keep := [] }),
  (74, { own := [], keep := [] }),
  (75, { own := [], keep := [] }),
  (76, { own := [], dat := [28, 44], unp := [36], keep := [(3, [2, 5, 13, 14, 31, 32, 33], [320, 321, 322, 323, 384, 385, 386, 387, 448, 449, 450, 451])] }),
  (77, { own := [], keep := [] }),
  (78, { own := [], keep := [] }),
  (79, { own := [], keep := [] }),
  (80, { own := [], keep := [] }),
  (81, { own := [], keep := [] }),
  (82, { own := [], keep := [] }),
  (83, { own := [], keep := [(4, [0, 1, 5], [])] }),
  (84, { own := [], keep := [(2, [0, 1, 5], [100000, 100001, 100002])] }),
  (85, { own := [], keep := [] }),
  (86, { own := [], keep := [] }),
  (87, { own := [], keep := [(2, [13, 14, 15], [192, 193, 194, 195])] }),
  (88, { own := [], keep := [] }),
  (89, { own := [], keep := [(2, [3, 4, 5, 7], [48, 64, 80])] }),
  (90, { own := [], keep := [(17, [4, 5, 7, 8, 9, 10, 11, 12, 13, 14, 16, 17, 18], [64, 80, 112, 144, 160, 208, 320, 321, 322, 323, 368, 369, 370, 371, 560, 816, 817, 818, 819, 1024, 1025, 1026, 1027, 1120, 1472, 1473, 1474, 1475, 1888, 1889, 1890, 1891])] }),
  (91, { own := [], keep := [(4, [2, 3, 4, 7], [48, 64])] }),
  (92, { own := [], keep := [(4, [3, 4, 14, 15, 16], [48, 64])] }),
  (93, { own := [], keep := [] }),
  (94, { own := [], keep := [(3, [0, 3, 4], [176])] }),
  (95, { own := [], keep := [] }),
  (96, { own := [], keep := [] }),
  (97, { own := [], keep := [] }),
  (98, { own := [], keep := [] }),
  (99, { own := [], keep := [] }),
  (100, { own := [16], keep := [(4, [5, 6, 7, 16, 17, 18], [208, 209, 210, 211, 240, 241, 242, 243, 256]), (8, [5, 6, 7, 9, 10, 16, 17, 18, 23, 24], [208, 209, 210, 211, 240, 241, 242, 243, 256]), (13, [5, 6, 7, 9, 16, 17, 18, 43, 44], [208, 209, 210, 211, 240, 241, 242, 243, 256])] }),
  (101, { own := [], dat := [38], keep := [(5, [2, 3, 4, 7, 22, 23], [48, 64, 240, 241, 242, 243])] }),
  (102, { own := [], keep := [] }),
  (103, { own := [], keep := [(3, [1, 2, 5, 6], [32]), (6, [1, 2, 5, 6, 7], [32])] }),
  (104, { own := [26], keep := [(4, [2, 4, 6, 7, 8, 9], [32, 64, 128, 240, 241, 242, 243, 288, 912]), (8, [2, 4, 6, 7, 8, 9, 10, 11], [32, 64, 128, 240, 241, 242, 243, 288, 416, 832, 912])] }),
  (105, { own := [], keep := [] }),
  (106, { own := [], keep := [] }),
  (107, { own := [], keep := [(5, [0, 6, 8, 9, 10, 11], [96, 128, 144, 432, 433, 434, 435, 480, 481, 482, 483])] }),
  (108, { own := [], keep := [] }),
  (109, { own := [], keep := [] }),
  (110, { own := [], keep := [] }),
  (111, { own := [], keep := [] }),
  (112, { own := [], keep := [] }),
  (113, { own := [], keep := [] }),
  (114, { own := [], keep := [(2, [1, 2, 8, 9, 10], [32]), (5, [1, 2, 6, 8, 9, 10, 15, 16], [32])] }),
  (115, { own := [], keep := [] }),
  (116, { own := [], keep := [] }),
  (117, { own := [], keep := [] }),
  (118, { own := [20, 24], keep := [(3, [2, 5, 6, 8, 9, 10, 11, 12, 13, 14], [80, 96, 128, 144, 160, 176, 192, 208, 320, 384, 688, 1296]), (7, [2, 5, 8, 9, 10, 11, 12, 13, 15], [80, 128, 144, 160, 176, 192, 208, 320, 384, 688, 1296]), (11, [2, 5, 8, 9, 10, 11, 12, 13, 15, 16, 17], [80, 128, 144, 160, 176, 192, 208, 320, 384, 688, 912, 913, 914, 915, 1296])] }),
  (119, { own := [], keep := [] }),
  (120, { own := [], keep := [] }),
  (121, { own := [], keep := [] }),
  (122, { own := [], keep := [] }),
  (123, { own := [], keep := [(2, [0, 7, 8, 9], [])] }),
  (124, { own := [], keep := [] }),
  (125, { own := [], keep := [] }),
  (126, { own := [], keep := [] }),
  (127, { own := [], keep := [(5, [1, 6], [])] }),
  (128, { own := [], keep := [(4, [1, 2, 5], [32])] }),
  (129, { own := [], keep := [(3, [1, 2, 3, 7, 8], [48])] }),
  (130, { own := [], keep := [] }),
  (131, { own := [], keep := [(5, [1, 3, 7, 19, 20], [48])] }),
  (132, { own := [42], keep := [] }),
  (133, { own := [], keep := [] }),
  (134, { own := [], keep := [] }),
  (135, { own := [], keep := [] }),
  (136, { own := [], keep := [(3, [1, 2, 3, 4, 8, 9, 16, 17], [64, 128, 144, 208, 209, 210, 211])] }),
  (137, { own := [], keep := [] }),
  (138, { own := [], keep := [] }),
  (139, { own := [8], keep := [(3, [1, 5, 9, 10, 11], [128, 320])] }),
  (140, { own := [], keep := [] }),
  (141, { own := [], keep := [(2, [0, 1, 7, 8], [])] }),
  (142, { own := [], keep := [] }),
  (143, { own := [], keep := [(5, [1, 3, 4], [16]), (10, [1, 3, 4, 5], [16]), (15, [1, 3, 6], [16]), (21, [1, 3, 6, 7, 8], [16]), (25, [1, 3, 6, 7, 8, 9], [16])] }),
  (144, { own := [], keep := [(4, [2, 3, 5], [32, 48]), (9, [2, 3, 6], [32, 48]), (12, [2, 3, 6, 7], [32, 48])] }),
  (145, { own := [17], keep := [(3, [1, 2, 4, 5, 6], [32, 64, 80, 144, 752]), (7, [1, 2, 4, 5, 6, 7, 8], [32, 64, 80, 144, 272, 672, 752])] }),
  (146, { own := [], keep := [(4, [4, 5, 7], [64, 80])] }),
  (147, { own := [9], keep := [(3, [1, 2, 4, 5, 6], [32, 64, 80, 144, 448])] }),
  (148, { own := [], keep := [(2, [1, 2, 5], [32])] }),
  (149, { own := [], keep := [(3, [2, 7, 8, 9], [176])] }),
  (150, { own := [], keep := [(2, [0, 1, 5], [])] }),
  (151, { own := [], keep := [] }),
  (152, { own := [], keep := [] }),
  (153, { own := [], keep := [(3, [2, 3, 4, 7, 8], [48, 64])] }),
  (154, { own := [], keep := [(2, [1, 2, 5], [32])] }),
  (155, { own := [33, 35], keep := [(5, [9, 10, 11, 12, 13, 14], [496, 497, 498, 499, 528, 560])] }),
  (156, { own := [14], keep := [(4, [3, 4, 5, 6, 7, 8, 9], [48, 64, 80, 96, 128, 224, 544])] }),
  (157, { own := [16, 30, 72, 144], frz := [53, 131], dat := [71, 99, 120, 143], keep := [(1, [0, 2, 6], [256, 848, 849, 850, 851, 1168, 2096, 2097, 2098, 2099, 2320, 100000, 100001, 100002]), (5, [0, 2, 6, 7, 8], [256, 848, 849, 850, 851, 1168, 1584, 1585, 1586, 1587, 1920, 1921, 1922, 1923, 2096, 2097, 2098, 2099, 2320, 100000, 100001, 100002])] }),
  (158, { own := [7], keep := [(3, [0, 1, 5, 6], [112, 352, 544])] }),
  (159, { own := [], keep := [] }),
  (160, { own := [], keep := [] }),
  (161, { own := [], keep := [(3, [2, 6, 7, 12, 13], [96, 112, 352])] }),
  (162, { own := [], keep := [] }),
  (163, { own := [13, 27, 76, 138], frz := [97], dat := [75, 116, 127, 137], keep := [(1, [0, 4], [208, 1232, 1552, 1553, 1554, 1555, 2224, 100000, 100001, 100002])] }),
  (164, { own := [], keep := [] }),
  (165, { own := [], keep := [] }),
  (166, { own := [], keep := [] }),
  (167, { own := [], keep := [] }),
  (168, { own := [], keep := [] }),
  (169, { own := [], keep := [(4, [3, 4, 5, 6, 9, 10, 11, 12], [64, 80, 96])] }),
  (170, { own := [], keep := [(3, [0, 1, 2, 3, 4, 11, 12], [240])] }),
  (171, { own := [], keep := [(2, [2, 7, 8, 9], [32])] }),
  (172, { own := [], keep := [] }),
  (173, { own := [34], keep := [(5, [3, 4, 6, 9, 10, 11, 30, 31], [64, 96])] }),
  (174, { own := [], keep := [] }),
  (175, { own := [], keep := [] }),
  (176, { own := [], keep := [] }),
  (177, { own := [], dat := [41, 46], keep := [(5, [2, 3, 4, 8, 10, 26, 27], [48, 64, 400, 401, 402, 403])] }),
  (178, { own := [], keep := [(3, [0, 1, 5, 6], [288, 289, 290, 291])] }),
  (179, { own := [6], keep := [(3, [0, 3, 10, 11, 12], [96, 336, 528])] }),
  (180, { own := [], keep := [(2, [0, 1, 5], [])] }),
  (181, { own := [7, 9], keep := [] }),
  (182, { own := [], keep := [] }),
  (183, { own := [], keep := [] }),
  (184, { own := [], keep := [(3, [1, 3, 4], [16, 112, 352, 353, 354, 355, 448]), (9, [1, 3, 4, 5, 6], [16, 112, 352, 353, 354, 355, 448])] }),
  (185, { own := [3], keep := [] }),
  (186, { own := [], keep := [(3, [0, 3, 4], [])] }),
  (187, { own := [15], keep := [(4, [1, 2, 6, 7, 8, 9], [32, 224, 240, 928]), (8, [1, 2, 6, 7, 8, 9, 10], [32, 224, 240, 928])] }),
  (188, { own := [7], keep := [] }),
  (189, { own := [], keep := [] }),
  (190, { own := [7], keep := [(3, [0, 1, 5, 6], [112, 304, 464])] }),
  (191, { own := [], keep := [(3, [1, 2, 3, 4], [16, 32, 48, 80, 368])] }),
  (192, { own := [], keep := [] }),
  (193, { own := [11], keep := [(3, [1, 2, 6, 7, 18, 19], [32, 176, 256, 257, 258, 259, 736]), (7, [1, 2, 6, 7, 8, 18, 19, 27, 28, 29], [32, 176, 256, 257, 258, 259, 736])] }),
  (194, { own := [14], keep := [(3, [0, 1, 4, 5, 10, 11], [64, 80, 496]), (7, [0, 1, 4, 5, 6, 7, 10, 11, 15, 16], [64, 80, 224, 400, 496])] }),
  (195, { own := [], keep := [] }),
  (196, { own := [], keep := [(3, [2, 5, 8, 9, 10], [32])] }),
  (197, { own := [], keep := [] }),
  (198, { own := [], keep := [] }),
  (199, { own := [], keep := [] }),
  (200, { own := [], keep := [] }),
  (201, { own := [], keep := [(2, [1, 2, 7, 8, 9], [32])] }),
  (202, { own := [], keep := [] }),
  (203, { own := [], keep := [(5, [1, 3, 18, 19, 20], [16]), (11, [1, 3, 35, 36], [16]), (16, [1, 3, 6, 35, 36, 68, 69], [16]), (19, [1, 3, 6, 7, 35, 36, 68, 69, 72, 73], [16])] }),
  (204, { own := [], keep := [(4, [0, 1, 12, 13], [])] }),
  (205, { own := [10], keep := [(3, [1, 2, 5, 6], [32, 160, 608]), (6, [1, 2, 5, 6, 17, 18, 19], [32, 160, 608])] }),
  (206, { own := [], keep := [] }),
  (207, { own := [], keep := [] }),
  (208, { own := [5], keep := [(3, [0, 3, 4], [80, 304])] }),
  (209, { own := [], keep := [(3, [1, 2, 5, 6], [32])] }),
  (210, { own := [], keep := [(6, [2, 3, 4, 7, 8, 9], [48, 64, 368, 1488]), (10, [2, 3, 4, 7, 8, 9, 10, 11, 12], [48, 64, 368, 496, 497, 498, 499, 544, 1488]), (13, [2, 3, 4, 7, 8, 9, 10, 11, 12, 13], [48, 64, 368, 496, 497, 498, 499, 544, 1488])] }),
  (211, { own := [], keep := [(3, [2, 7, 8, 9], [176])] }),
  (212, { own := [], keep := [(3, [2, 5, 8, 9, 10], [32])] }),
  (213, { own := [], keep := [(1, [0, 1], [])] }),
  (214, { own := [10], keep := [(3, [0, 2, 7, 8], [160])] }),
  (215, { own := [29], keep := [(3, [2, 3, 4, 7, 8, 9], [48, 64, 208, 896]), (9, [2, 3, 4, 7, 8, 9, 10, 11, 12], [48, 64, 160, 208, 384, 385, 386, 387, 464, 784, 896])] }),
  (216, { own := [], keep := [(4, [0, 1, 2, 7, 8], [])] }),
  (217, { own := [], keep := [(2, [0, 1, 7, 8, 9, 10], [])] }),
  (218, { own := [], keep := [(3, [0, 5, 6, 7], [])] }),
  (219, { own := [], keep := [(2, [0, 1, 7, 8], [])] }),
  (220, { own := [], keep := [] }),
  (221, { own := [], keep := [(3, [0, 1, 3, 4, 11, 17, 18, 19], [256])] }),
  (222, { own := [], keep := [(3, [0, 1, 2, 9, 23, 24], []), (6, [0, 1, 2, 9, 10, 23, 24, 30, 31], [])] }),
  (223, { own := [], keep := [(4, [2, 3, 29, 30, 31], [32, 48]), (10, [2, 3, 42, 43], [32, 48]), (13, [2, 3, 7, 42, 43, 47, 48], [32, 48])] }),
  (224, { own := [], keep := [] }),
  (225, { own := [], keep := [(3, [1, 2, 4, 5, 6], [32, 64, 80, 160, 161, 162, 163]), (7, [1, 2, 4, 5, 6, 7, 8], [32, 64, 80, 160, 161, 162, 163])] }),
  (226, { own := [], keep := [(3, [5, 6, 7], [176, 177, 178, 179, 192, 416])] }),
  (227, { own := [], keep := [(3, [0, 3, 9, 10, 11], []), (11, [6, 25, 26, 27], [384, 385, 386, 387, 528])] }),
  (228, { own := [], keep := [] }),
  (229, { own := [], keep := [(3, [1, 2, 5], [32]), (7, [1, 2, 5, 6, 7], [32, 224, 225, 226, 227]), (10, [1, 2, 5, 6, 7, 8], [32, 224, 225, 226, 227])] }),
  (230, { own := [], keep := [(4, [0, 1, 5], [])] }),
  (231, { own := [], keep := [(3, [1, 2, 3, 4, 9, 10], [64, 1488, 1489, 1490, 1491]), (6, [1, 2, 3, 4, 9, 10, 11], [64, 1488, 1489, 1490, 1491]), (14, [1, 2, 3, 4, 9, 13], [64, 1488, 1489, 1490, 1491])] }),
  (232, { own := [], keep := [(8, [7, 8], [480])] }),
  (233, { own := [], keep := [] }),
  (234, { own := [], keep := [(2, [0, 1, 2, 3, 8, 9], [100000, 100001, 100002])] }),
  (235, { own := [], keep := [] }),
  (236, { own := [], keep := [(1, [0, 1], [])] }),
  (237, { own := [], keep := [] }),
  (238, { own := [], keep := [] }),
  (239, { own := [14], keep := [(3, [0, 2, 3, 4], [32, 48, 112, 512]), (7, [0, 2, 3, 4, 5, 6], [32, 48, 112, 224, 432, 512])] }),
  (240, { own := [22], keep := [(3, [2, 3, 4, 5, 6, 7], [32, 48, 64, 96, 192, 1040]), (7, [2, 3, 4, 5, 6, 7, 8, 9], [32, 48, 64, 96, 192, 352, 960, 1040])] }),
  (241, { own := [22], keep := [(3, [0, 1, 4, 5, 6], [64, 80, 224, 1152]), (7, [0, 1, 4, 5, 6, 7, 8], [64, 80, 224, 352, 1072, 1152])] }),
  (242, { own := [8], keep := [(3, [0, 1, 5, 6], [128, 336, 337, 338, 339, 384, 448])] }),
  (243, { own := [25], keep := [] }),
  (244, { own := [], keep := [] }),
  (245, { own := [], keep := [(1, [0, 1, 2, 6], [100000, 100001, 100002]), (4, [0, 1, 2, 6, 7], [100000, 100001, 100002])] }),
  (246, { own := [], keep := [(4, [0, 6, 7, 8, 9], []), (8, [0, 6, 7, 10], [])] }),
  (247, { own := [], keep := [(5, [0, 1, 6, 7, 8, 9], [112])] }),
  (248, { own := [], keep := [] }),
  (249, { own := [], keep := [(2, [0, 6, 7], [])] }),
  (250, { own := [], keep := [(3, [0, 1, 2, 7, 8], []), (5, [0, 1, 2, 7, 8], []), (14, [0, 1, 2, 7, 8, 9], []), (20, [0, 1, 2, 7, 8, 10], [])] }),
  (251, { own := [], keep := [] }),
  (252, { own := [], keep := [(3, [0, 1, 9, 10], []), (5, [0, 1, 9, 10], [])] }),
  (253, { own := [], keep := [(3, [0, 1, 10, 11], []), (5, [0, 1, 10, 11], []), (13, [0, 1, 10, 11], []), (15, [0, 1, 10, 11], [])] }),
  (254, { own := [], keep := [] }),
  (255, { own := [], keep := [] }),
  (256, { own := [], keep := [] }),
  (257, { own := [], keep := [] }),
  (258, { own := [], keep := [(1, [0, 2, 3, 8], [])] }),
  (259, { own := [], keep := [] }),
  (260, { own := [], keep := [] }),
  (261, { own := [], keep := [] }),
  (262, { own := [], keep := [] }),
  (263, { own := [], keep := [] }),
  (264, { own := [], keep := [] })]
def An : Ann := { lend := [16, 17, 18, 84, 96, 97, 108, 157, 163, 207, 234, 245], fn := fun k => (lookL annL k).getD {} }
@[simp] theorem an_lend : An.lend = [16, 17, 18, 84, 96, 97, 108, 157, 163, 207, 234, 245] := rfl
@[simp] theorem an3 : An.fn 3 = { own := [], keep := [] } := rfl
@[simp] theorem an4 : An.fn 4 = { own := [], keep := [] } := rfl
@[simp] theorem an5 : An.fn 5 = { own := [], keep := [] } := rfl
@[simp] theorem an6 : An.fn 6 = { own := [], keep := [] } := rfl
@[simp] theorem an7 : An.fn 7 = { own := [], keep := [] } := rfl
@[simp] theorem an8 : An.fn 8 = { own := [], keep := [] } := rfl
@[simp] theorem an9 : An.fn 9 = { own := [168], dat := [67, 74, 81, 89], unp := [111, 128, 149], keep := [(18, [2, 3, 4, 5, 11, 15, 16, 17, 18, 19, 20, 22, 23, 24, 25], [64, 80, 1072, 1073, 1074, 1075, 1184, 1185, 1186, 1187, 1296, 1297, 1298, 1299, 1424, 1425, 1426, 1427, 1472, 1488, 1504, 1872, 2144, 2464])] } := rfl
@[simp] theorem an10 : An.fn 10 = { own := [], keep := [] } := rfl
@[simp] theorem an11 : An.fn 11 = { own := [], keep := [] } := rfl
@[simp] theorem an12 : An.fn 12 = { own := [74], keep := [] } := rfl
@[simp] theorem an13 : An.fn 13 = { own := [], keep := [(4, [0, 1, 5], [])] } := rfl
@[simp] theorem an14 : An.fn 14 = { own := [], keep := [] } := rfl
@[simp] theorem an15 : An.fn 15 = { own := [], keep := [] } := rfl
@[simp] theorem an16 : An.fn 16 = { own := [], keep := [] } := rfl
@[simp] theorem an17 : An.fn 17 = { own := [], keep := [] } := rfl
@[simp] theorem an18 : An.fn 18 = { own := [], keep := [(2, [0, 1, 5], [100000, 100001, 100002])] } := rfl
@[simp] theorem an19 : An.fn 19 = { own := [], keep := [(2, [0, 1, 5], [])] } := rfl
@[simp] theorem an20 : An.fn 20 = { own := [], keep := [] } := rfl
@[simp] theorem an21 : An.fn 21 = { own := [], keep := [] } := rfl
@[simp] theorem an22 : An.fn 22 = { own := [], keep := [] } := rfl
@[simp] theorem an23 : An.fn 23 = { own := [], keep := [] } := rfl
@[simp] theorem an24 : An.fn 24 = { own := [], keep := [] } := rfl
@[simp] theorem an25 : An.fn 25 = { own := [], keep := [] } := rfl
@[simp] theorem an26 : An.fn 26 = { own := [], keep := [] } := rfl
@[simp] theorem an27 : An.fn 27 = { own := [], keep := [] } := rfl
@[simp] theorem an28 : An.fn 28 = { own := [], keep := [] } := rfl
@[simp] theorem an29 : An.fn 29 = { own := [], keep := [] } := rfl
@[simp] theorem an30 : An.fn 30 = { own := [], keep := [] } := rfl
@[simp] theorem an31 : An.fn 31 = { own := [], keep := [] } := rfl
@[simp] theorem an32 : An.fn 32 = { own := [], keep := [] } := rfl
@[simp] theorem an33 : An.fn 33 = { own := [], keep := [] } := rfl
@[simp] theorem an34 : An.fn 34 = { own := [], keep := [] } := rfl
@[simp] theorem an35 : An.fn 35 = { own := [], keep := [] } := rfl
@[simp] theorem an36 : An.fn 36 = { own := [], keep := [] } := rfl
@[simp] theorem an37 : An.fn 37 = { own := [], keep := [] } := rfl
@[simp] theorem an38 : An.fn 38 = { own := [], keep := [(3, [0, 3, 4], [])] } := rfl
@[simp] theorem an39 : An.fn 39 = { own := [], keep := [] } := rfl
@[simp] theorem an40 : An.fn 40 = { own := [], keep := [] } := rfl
@[simp] theorem an41 : An.fn 41 = { own := [], keep := [] } := rfl
@[simp] theorem an42 : An.fn 42 = { own := [], keep := [(4, [0, 1, 5], [])] } := rfl
@[simp] theorem an43 : An.fn 43 = { own := [], keep := [] } := rfl
@[simp] theorem an44 : An.fn 44 = { own := [], keep := [] } := rfl
@[simp] theorem an45 : An.fn 45 = { own := [], keep := [] } := rfl
@[simp] theorem an46 : An.fn 46 = { own := [], keep := [] } := rfl
@[simp] theorem an47 : An.fn 47 = { own := [], keep := [] } := rfl
@[simp] theorem an48 : An.fn 48 = { own := [], keep := [] } := rfl
@[simp] theorem an49 : An.fn 49 = { own := [], keep := [] } := rfl
@[simp] theorem an50 : An.fn 50 = { own := [], keep := [] } := rfl
@[simp] theorem an51 : An.fn 51 = { own := [], keep := [] } := rfl
@[simp] theorem an52 : An.fn 52 = { own := [], keep := [] } := rfl
@[simp] theorem an53 : An.fn 53 = { own := [], keep := [] } := rfl
@[simp] theorem an54 : An.fn 54 = { own := [], keep := [] } := rfl
@[simp] theorem an55 : An.fn 55 = { own := [], keep := [] } := rfl
@[simp] theorem an56 : An.fn 56 = { own := [], keep := [] } := rfl
@[simp] theorem an57 : An.fn 57 = { own := [69], keep := [(14, [2, 4, 5, 6, 8, 10, 13, 14, 15, 16, 17], [80, 96, 128, 160, 208, 256, 816, 817, 818, 819, 1008, 1009, 1010, 1011, 1104, 1920]), (18, [2, 4, 5, 6, 8, 10, 13, 14, 15, 16, 17, 18, 19], [80, 96, 128, 160, 208, 256, 816, 817, 818, 819, 1008, 1009, 1010, 1011, 1104, 1312, 1313, 1314, 1315, 1920])] } := rfl
@[simp] theorem an58 : An.fn 58 = { own := [], keep := [] } := rfl
@[simp] theorem an59 : An.fn 59 = { own := [], keep := [] } := rfl
@[simp] theorem an60 : An.fn 60 = { own := [], keep := [(5, [0, 1, 5], [])] } := rfl
@[simp] theorem an61 : An.fn 61 = { own := [], keep := [] } := rfl
@[simp] theorem an62 : An.fn 62 = { own := [], keep := [] } := rfl
@[simp] theorem an63 : An.fn 63 = { own := [], keep := [] } := rfl
@[simp] theorem an64 : An.fn 64 = { own := [], keep := [] } := rfl
@[simp] theorem an65 : An.fn 65 = { own := [8], keep := [(3, [1, 2, 4, 5, 6], [32, 64, 80, 128, 432])] } := rfl
@[simp] theorem an66 : An.fn 66 = { own := [23], keep := [] } := rfl
@[simp] theorem an67 : An.fn 67 = { own := [9], keep := [(3, [1, 2, 4, 5, 6], [32, 64, 80, 144, 448])] } := rfl
@[simp] theorem an68 : An.fn 68 = { own := [9], keep := [(3, [1, 2, 4, 5, 6], [32, 64, 80, 144, 448])] } := rfl
@[simp] theorem an69 : An.fn 69 = { own := [], keep := [(3, [2, 5, 8, 9, 10], [80, 128, 144, 224, 225, 226, 227])] } := rfl
@[simp] theorem an70 : An.fn 70 = { own := [16], unp := [33, 46], keep := [(3, [0, 1, 2, 7, 8, 9], [256]), (8, [0, 1, 2, 7, 8, 10], [256]), (13, [8, 11, 12, 13], [816, 817, 818, 819, 864, 865, 866, 867])] } := rfl
@[simp] theorem an71 : An.fn 71 = { own := [], keep := [(3, [0, 3, 4], [112, 320, 321, 322, 323])] } := rfl
@[simp] theorem an72 : An.fn 72 = { own := [], keep := [(3, [0, 3, 4], [112])] } := rfl
@[simp] theorem an73 : An.fn 73 = { own := [], keep := [] } := rfl
@[simp] theorem an74 : An.fn 74 = { own := [], keep := [] } := rfl
@[simp] theorem an75 : An.fn 75 = { own := [], keep := [] } := rfl
@[simp] theorem an76 : An.fn 76 = { own := [], dat := [28, 44], unp := [36], keep := [(3, [2, 5, 13, 14, 31, 32, 33], [320, 321, 322, 323, 384, 385, 386, 387, 448, 449, 450, 451])] } := rfl
@[simp] theorem an77 : An.fn 77 = { own := [], keep := [] } := rfl
@[simp] theorem an78 : An.fn 78 = { own := [], keep := [] } := rfl
@[simp] theorem an79 : An.fn 79 = { own := [], keep := [] } := rfl
@[simp] theorem an80 : An.fn 80 = { own := [], keep := [] } := rfl
@[simp] theorem an81 : An.fn 81 = { own := [], keep := [] } := rfl
@[simp] theorem an82 : An.fn 82 = { own := [], keep := [] } := rfl
@[simp] theorem an83 : An.fn 83 = { own := [], keep := [(4, [0, 1, 5], [])] } := rfl
@[simp] theorem an84 : An.fn 84 = { own := [], keep := [(2, [0, 1, 5], [100000, 100001, 100002])] } := rfl
@[simp] theorem an85 : An.fn 85 = { own := [], keep := [] } := rfl
@[simp] theorem an86 : An.fn 86 = { own := [], keep := [] } := rfl
@[simp] theorem an87 : An.fn 87 = { own := [], keep := [(2, [13, 14, 15], [192, 193, 194, 195])] } := rfl
@[simp] theorem an88 : An.fn 88 = { own := [], keep := [] } := rfl
@[simp] theorem an89 : An.fn 89 = { own := [], keep := [(2, [3, 4, 5, 7], [48, 64, 80])] } := rfl
@[simp] theorem an90 : An.fn 90 = { own := [], keep := [(17, [4, 5, 7, 8, 9, 10, 11, 12, 13, 14, 16, 17, 18], [64, 80, 112, 144, 160, 208, 320, 321, 322, 323, 368, 369, 370, 371, 560, 816, 817, 818, 819, 1024, 1025, 1026, 1027, 1120, 1472, 1473, 1474, 1475, 1888, 1889, 1890, 1891])] } := rfl
@[simp] theorem an91 : An.fn 91 = { own := [], keep := [(4, [2, 3, 4, 7], [48, 64])] } := rfl
@[simp] theorem an92 : An.fn 92 = { own := [], keep := [(4, [3, 4, 14, 15, 16], [48, 64])] } := rfl
@[simp] theorem an93 : An.fn 93 = { own := [], keep := [] } := rfl
@[simp] theorem an94 : An.fn 94 = { own := [], keep := [(3, [0, 3, 4], [176])] } := rfl
@[simp] theorem an95 : An.fn 95 = { own := [], keep := [] } := rfl
@[simp] theorem an96 : An.fn 96 = { own := [], keep := [] } := rfl
@[simp] theorem an97 : An.fn 97 = { own := [], keep := [] } := rfl
@[simp] theorem an98 : An.fn 98 = { own := [], keep := [] } := rfl
@[simp] theorem an99 : An.fn 99 = { own := [], keep := [] } := rfl
@[simp] theorem an100 : An.fn 100 = { own := [16], keep := [(4, [5, 6, 7, 16, 17, 18], [208, 209, 210, 211, 240, 241, 242, 243, 256]), (8, [5, 6, 7, 9, 10, 16, 17, 18, 23, 24], [208, 209, 210, 211, 240, 241, 242, 243, 256]), (13, [5, 6, 7, 9, 16, 17, 18, 43, 44], [208, 209, 210, 211, 240, 241, 242, 243, 256])] } := rfl
@[simp] theorem an101 : An.fn 101 = { own := [], dat := [38], keep := [(5, [2, 3, 4, 7, 22, 23], [48, 64, 240, 241, 242, 243])] } := rfl
@[simp] theorem an102 : An.fn 102 = { own := [], keep := [] } := rfl
@[simp] theorem an103 : An.fn 103 = { own := [], keep := [(3, [1, 2, 5, 6], [32]), (6, [1, 2, 5, 6, 7], [32])] } := rfl
@[simp] theorem an104 : An.fn 104 = { own := [26], keep := [(4, [2, 4, 6, 7, 8, 9], [32, 64, 128, 240, 241, 242, 243, 288, 912]), (8, [2, 4, 6, 7, 8, 9, 10, 11], [32, 64, 128, 240, 241, 242, 243, 288, 416, 832, 912])] } := rfl
@[simp] theorem an105 : An.fn 105 = { own := [], keep := [] } := rfl
@[simp] theorem an106 : An.fn 106 = { own := [], keep := [] } := rfl
@[simp] theorem an107 : An.fn 107 = { own := [], keep := [(5, [0, 6, 8, 9, 10, 11], [96, 128, 144, 432, 433, 434, 435, 480, 481, 482, 483])] } := rfl
@[simp] theorem an108 : An.fn 108 = { own := [], keep := [] } := rfl
@[simp] theorem an109 : An.fn 109 = { own := [], keep := [] } := rfl
@[simp] theorem an110 : An.fn 110 = { own := [], keep := [] } := rfl
@[simp] theorem an111 : An.fn 111 = { own := [], keep := [] } := rfl
@[simp] theorem an112 : An.fn 112 = { own := [], keep := [] } := rfl
@[simp] theorem an113 : An.fn 113 = { own := [], keep := [] } := rfl
@[simp] theorem an114 : An.fn 114 = { own := [], keep := [(2, [1, 2, 8, 9, 10], [32]), (5, [1, 2, 6, 8, 9, 10, 15, 16], [32])] } := rfl
@[simp] theorem an115 : An.fn 115 = { own := [], keep := [] } := rfl
@[simp] theorem an116 : An.fn 116 = { own := [], keep := [] } := rfl
@[simp] theorem an117 : An.fn 117 = { own := [], keep := [] } := rfl
@[simp] theorem an118 : An.fn 118 = { own := [20, 24], keep := [(3, [2, 5, 6, 8, 9, 10, 11, 12, 13, 14], [80, 96, 128, 144, 160, 176, 192, 208, 320, 384, 688, 1296]), (7, [2, 5, 8, 9, 10, 11, 12, 13, 15], [80, 128, 144, 160, 176, 192, 208, 320, 384, 688, 1296]), (11, [2, 5, 8, 9, 10, 11, 12, 13, 15, 16, 17], [80, 128, 144, 160, 176, 192, 208, 320, 384, 688, 912, 913, 914, 915, 1296])] } := rfl
@[simp] theorem an119 : An.fn 119 = { own := [], keep := [] } := rfl
@[simp] theorem an120 : An.fn 120 = { own := [], keep := [] } := rfl
@[simp] theorem an121 : An.fn 121 = { own := [], keep := [] } := rfl
@[simp] theorem an122 : An.fn 122 = { own := [], keep := [] } := rfl
@[simp] theorem an123 : An.fn 123 = { own := [], keep := [(2, [0, 7, 8, 9], [])] } := rfl
@[simp] theorem an124 : An.fn 124 = { own := [], keep := [] } := rfl
@[simp] theorem an125 : An.fn 125 = { own := [], keep := [] } := rfl
@[simp] theorem an126 : An.fn 126 = { own := [], keep := [] } := rfl
@[simp] theorem an127 : An.fn 127 = { own := [], keep := [(5, [1, 6], [])] } := rfl
@[simp] theorem an128 : An.fn 128 = { own := [], keep := [(4, [1, 2, 5], [32])] } := rfl
@[simp] theorem an129 : An.fn 129 = { own := [], keep := [(3, [1, 2, 3, 7, 8], [48])] } := rfl
@[simp] theorem an130 : An.fn 130 = { own := [], keep := [] } := rfl
@[simp] theorem an131 : An.fn 131 = { own := [], keep := [(5, [1, 3, 7, 19, 20], [48])] } := rfl
@[simp] theorem an132 : An.fn 132 = { own := [42], keep := [] } := rfl
@[simp] theorem an133 : An.fn 133 = { own := [], keep := [] } := rfl
@[simp] theorem an134 : An.fn 134 = { own := [], keep := [] } := rfl
@[simp] theorem an135 : An.fn 135 = { own := [], keep := [] } := rfl
@[simp] theorem an136 : An.fn 136 = { own := [], keep := [(3, [1, 2, 3, 4, 8, 9, 16, 17], [64, 128, 144, 208, 209, 210, 211])] } := rfl
@[simp] theorem an137 : An.fn 137 = { own := [], keep := [] } := rfl
@[simp] theorem an138 : An.fn 138 = { own := [], keep := [] } := rfl
@[simp] theorem an139 : An.fn 139 = { own := [8], keep := [(3, [1, 5, 9, 10, 11], [128, 320])] } := rfl
@[simp] theorem an140 : An.fn 140 = { own := [], keep := [] } := rfl
@[simp] theorem an141 : An.fn 141 = { own := [], keep := [(2, [0, 1, 7, 8], [])] } := rfl
@[simp] theorem an142 : An.fn 142 = { own := [], keep := [] } := rfl
@[simp] theorem an143 : An.fn 143 = { own := [], keep := [(5, [1, 3, 4], [16]), (10, [1, 3, 4, 5], [16]), (15, [1, 3, 6], [16]), (21, [1, 3, 6, 7, 8], [16]), (25, [1, 3, 6, 7, 8, 9], [16])] } := rfl
@[simp] theorem an144 : An.fn 144 = { own := [], keep := [(4, [2, 3, 5], [32, 48]), (9, [2, 3, 6], [32, 48]), (12, [2, 3, 6, 7], [32, 48])] } := rfl
@[simp] theorem an145 : An.fn 145 = { own := [17], keep := [(3, [1, 2, 4, 5, 6], [32, 64, 80, 144, 752]), (7, [1, 2, 4, 5, 6, 7, 8], [32, 64, 80, 144, 272, 672, 752])] } := rfl
@[simp] theorem an146 : An.fn 146 = { own := [], keep := [(4, [4, 5, 7], [64, 80])] } := rfl
@[simp] theorem an147 : An.fn 147 = { own := [9], keep := [(3, [1, 2, 4, 5, 6], [32, 64, 80, 144, 448])] } := rfl
@[simp] theorem an148 : An.fn 148 = { own := [], keep := [(2, [1, 2, 5], [32])] } := rfl
@[simp] theorem an149 : An.fn 149 = { own := [], keep := [(3, [2, 7, 8, 9], [176])] } := rfl
@[simp] theorem an150 : An.fn 150 = { own := [], keep := [(2, [0, 1, 5], [])] } := rfl
@[simp] theorem an151 : An.fn 151 = { own := [], keep := [] } := rfl
@[simp] theorem an152 : An.fn 152 = { own := [], keep := [] } := rfl
@[simp] theorem an153 : An.fn 153 = { own := [], keep := [(3, [2, 3, 4, 7, 8], [48, 64])] } := rfl
@[simp] theorem an154 : An.fn 154 = { own := [], keep := [(2, [1, 2, 5], [32])] } := rfl
@[simp] theorem an155 : An.fn 155 = { own := [33, 35], keep := [(5, [9, 10, 11, 12, 13, 14], [496, 497, 498, 499, 528, 560])] } := rfl
@[simp] theorem an156 : An.fn 156 = { own := [14], keep := [(4, [3, 4, 5, 6, 7, 8, 9], [48, 64, 80, 96, 128, 224, 544])] } := rfl
@[simp] theorem an157 : An.fn 157 = { own := [16, 30, 72, 144], frz := [53, 131], dat := [71, 99, 120, 143], keep := [(1, [0, 2, 6], [256, 848, 849, 850, 851, 1168, 2096, 2097, 2098, 2099, 2320, 100000, 100001, 100002]), (5, [0, 2, 6, 7, 8], [256, 848, 849, 850, 851, 1168, 1584, 1585, 1586, 1587, 1920, 1921, 1922, 1923, 2096, 2097, 2098, 2099, 2320, 100000, 100001, 100002])] } := rfl
@[simp] theorem an158 : An.fn 158 = { own := [7], keep := [(3, [0, 1, 5, 6], [112, 352, 544])] } := rfl
@[simp] theorem an159 : An.fn 159 = { own := [], keep := [] } := rfl
@[simp] theorem an160 : An.fn 160 = { own := [], keep := [] } := rfl
@[simp] theorem an161 : An.fn 161 = { own := [], keep := [(3, [2, 6, 7, 12, 13], [96, 112, 352])] } := rfl
@[simp] theorem an162 : An.fn 162 = { own := [], keep := [] } := rfl
@[simp] theorem an163 : An.fn 163 = { own := [13, 27, 76, 138], frz := [97], dat := [75, 116, 127, 137], keep := [(1, [0, 4], [208, 1232, 1552, 1553, 1554, 1555, 2224, 100000, 100001, 100002])] } := rfl
@[simp] theorem an164 : An.fn 164 = { own := [], keep := [] } := rfl
@[simp] theorem an165 : An.fn 165 = { own := [], keep := [] } := rfl
@[simp] theorem an166 : An.fn 166 = { own := [], keep := [] } := rfl
@[simp] theorem an167 : An.fn 167 = { own := [], keep := [] } := rfl
@[simp] theorem an168 : An.fn 168 = { own := [], keep := [] } := rfl
@[simp] theorem an169 : An.fn 169 = { own := [], keep := [(4, [3, 4, 5, 6, 9, 10, 11, 12], [64, 80, 96])] } := rfl
@[simp] theorem an170 : An.fn 170 = { own := [], keep := [(3, [0, 1, 2, 3, 4, 11, 12], [240])] } := rfl
@[simp] theorem an171 : An.fn 171 = { own := [], keep := [(2, [2, 7, 8, 9], [32])] } := rfl
@[simp] theorem an172 : An.fn 172 = { own := [], keep := [] } := rfl
@[simp] theorem an173 : An.fn 173 = { own := [34], keep := [(5, [3, 4, 6, 9, 10, 11, 30, 31], [64, 96])] } := rfl
@[simp] theorem an174 : An.fn 174 = { own := [], keep := [] } := rfl
@[simp] theorem an175 : An.fn 175 = { own := [], keep := [] } := rfl
@[simp] theorem an176 : An.fn 176 = { own := [], keep := [] } := rfl
@[simp] theorem an177 : An.fn 177 = { own := [], dat := [41, 46], keep := [(5, [2, 3, 4, 8, 10, 26, 27], [48, 64, 400, 401, 402, 403])] } := rfl
@[simp] theorem an178 : An.fn 178 = { own := [], keep := [(3, [0, 1, 5, 6], [288, 289, 290, 291])] } := rfl
@[simp] theorem an179 : An.fn 179 = { own := [6], keep := [(3, [0, 3, 10, 11, 12], [96, 336, 528])] } := rfl
@[simp] theorem an180 : An.fn 180 = { own := [], keep := [(2, [0, 1, 5], [])] } := rfl
@[simp] theorem an181 : An.fn 181 = { own := [7, 9], keep := [] } := rfl
@[simp] theorem an182 : An.fn 182 = { own := [], keep := [] } := rfl
@[simp] theorem an183 : An.fn 183 = { own := [], keep := [] } := rfl
@[simp] theorem an184 : An.fn 184 = { own := [], keep := [(3, [1, 3, 4], [16, 112, 352, 353, 354, 355, 448]), (9, [1, 3, 4, 5, 6], [16, 112, 352, 353, 354, 355, 448])] } := rfl
@[simp] theorem an185 : An.fn 185 = { own := [3], keep := [] } := rfl
@[simp] theorem an186 : An.fn 186 = { own := [], keep := [(3, [0, 3, 4], [])] } := rfl
@[simp] theorem an187 : An.fn 187 = { own := [15], keep := [(4, [1, 2, 6, 7, 8, 9], [32, 224, 240, 928]), (8, [1, 2, 6, 7, 8, 9, 10], [32, 224, 240, 928])] } := rfl
@[simp] theorem an188 : An.fn 188 = { own := [7], keep := [] } := rfl
@[simp] theorem an189 : An.fn 189 = { own := [], keep := [] } := rfl
@[simp] theorem an190 : An.fn 190 = { own := [7], keep := [(3, [0, 1, 5, 6], [112, 304, 464])] } := rfl
@[simp] theorem an191 : An.fn 191 = { own := [], keep := [(3, [1, 2, 3, 4], [16, 32, 48, 80, 368])] } := rfl
@[simp] theorem an192 : An.fn 192 = { own := [], keep := [] } := rfl
@[simp] theorem an193 : An.fn 193 = { own := [11], keep := [(3, [1, 2, 6, 7, 18, 19], [32, 176, 256, 257, 258, 259, 736]), (7, [1, 2, 6, 7, 8, 18, 19, 27, 28, 29], [32, 176, 256, 257, 258, 259, 736])] } := rfl
@[simp] theorem an194 : An.fn 194 = { own := [14], keep := [(3, [0, 1, 4, 5, 10, 11], [64, 80, 496]), (7, [0, 1, 4, 5, 6, 7, 10, 11, 15, 16], [64, 80, 224, 400, 496])] } := rfl
@[simp] theorem an195 : An.fn 195 = { own := [], keep := [] } := rfl
@[simp] theorem an196 : An.fn 196 = { own := [], keep := [(3, [2, 5, 8, 9, 10], [32])] } := rfl
@[simp] theorem an197 : An.fn 197 = { own := [], keep := [] } := rfl
@[simp] theorem an198 : An.fn 198 = { own := [], keep := [] } := rfl
@[simp] theorem an199 : An.fn 199 = { own := [], keep := [] } := rfl
@[simp] theorem an200 : An.fn 200 = { own := [], keep := [] } := rfl
@[simp] theorem an201 : An.fn 201 = { own := [], keep := [(2, [1, 2, 7, 8, 9], [32])] } := rfl
@[simp] theorem an202 : An.fn 202 = { own := [], keep := [] } := rfl
@[simp] theorem an203 : An.fn 203 = { own := [], keep := [(5, [1, 3, 18, 19, 20], [16]), (11, [1, 3, 35, 36], [16]), (16, [1, 3, 6, 35, 36, 68, 69], [16]), (19, [1, 3, 6, 7, 35, 36, 68, 69, 72, 73], [16])] } := rfl
@[simp] theorem an204 : An.fn 204 = { own := [], keep := [(4, [0, 1, 12, 13], [])] } := rfl
@[simp] theorem an205 : An.fn 205 = { own := [10], keep := [(3, [1, 2, 5, 6], [32, 160, 608]), (6, [1, 2, 5, 6, 17, 18, 19], [32, 160, 608])] } := rfl
@[simp] theorem an206 : An.fn 206 = { own := [], keep := [] } := rfl
@[simp] theorem an207 : An.fn 207 = { own := [], keep := [] } := rfl
@[simp] theorem an208 : An.fn 208 = { own := [5], keep := [(3, [0, 3, 4], [80, 304])] } := rfl
@[simp] theorem an209 : An.fn 209 = { own := [], keep := [(3, [1, 2, 5, 6], [32])] } := rfl
@[simp] theorem an210 : An.fn 210 = { own := [], keep := [(6, [2, 3, 4, 7, 8, 9], [48, 64, 368, 1488]), (10, [2, 3, 4, 7, 8, 9, 10, 11, 12], [48, 64, 368, 496, 497, 498, 499, 544, 1488]), (13, [2, 3, 4, 7, 8, 9, 10, 11, 12, 13], [48, 64, 368, 496, 497, 498, 499, 544, 1488])] } := rfl
@[simp] theorem an211 : An.fn 211 = { own := [], keep := [(3, [2, 7, 8, 9], [176])] } := rfl
@[simp] theorem an212 : An.fn 212 = { own := [], keep := [(3, [2, 5, 8, 9, 10], [32])] } := rfl
@[simp] theorem an213 : An.fn 213 = { own := [], keep := [(1, [0, 1], [])] } := rfl
@[simp] theorem an214 : An.fn 214 = { own := [10], keep := [(3, [0, 2, 7, 8], [160])] } := rfl
@[simp] theorem an215 : An.fn 215 = { own := [29], keep := [(3, [2, 3, 4, 7, 8, 9], [48, 64, 208, 896]), (9, [2, 3, 4, 7, 8, 9, 10, 11, 12], [48, 64, 160, 208, 384, 385, 386, 387, 464, 784, 896])] } := rfl
@[simp] theorem an216 : An.fn 216 = { own := [], keep := [(4, [0, 1, 2, 7, 8], [])] } := rfl
@[simp] theorem an217 : An.fn 217 = { own := [], keep := [(2, [0, 1, 7, 8, 9, 10], [])] } := rfl
@[simp] theorem an218 : An.fn 218 = { own := [], keep := [(3, [0, 5, 6, 7], [])] } := rfl
@[simp] theorem an219 : An.fn 219 = { own := [], keep := [(2, [0, 1, 7, 8], [])] } := rfl
@[simp] theorem an220 : An.fn 220 = { own := [], keep := [] } := rfl
@[simp] theorem an221 : An.fn 221 = { own := [], keep := [(3, [0, 1, 3, 4, 11, 17, 18, 19], [256])] } := rfl
@[simp] theorem an222 : An.fn 222 = { own := [], keep := [(3, [0, 1, 2, 9, 23, 24], []), (6, [0, 1, 2, 9, 10, 23, 24, 30, 31], [])] } := rfl
@[simp] theorem an223 : An.fn 223 = { own := [], keep := [(4, [2, 3, 29, 30, 31], [32, 48]), (10, [2, 3, 42, 43], [32, 48]), (13, [2, 3, 7, 42, 43, 47, 48], [32, 48])] } := rfl
@[simp] theorem an224 : An.fn 224 = { own := [], keep := [] } := rfl
@[simp] theorem an225 : An.fn 225 = { own := [], keep := [(3, [1, 2, 4, 5, 6], [32, 64, 80, 160, 161, 162, 163]), (7, [1, 2, 4, 5, 6, 7, 8], [32, 64, 80, 160, 161, 162, 163])] } := rfl
@[simp] theorem an226 : An.fn 226 = { own := [], keep := [(3, [5, 6, 7], [176, 177, 178, 179, 192, 416])] } := rfl
@[simp] theorem an227 : An.fn 227 = { own := [], keep := [(3, [0, 3, 9, 10, 11], []), (11, [6, 25, 26, 27], [384, 385, 386, 387, 528])] } := rfl
@[simp] theorem an228 : An.fn 228 = { own := [], keep := [] } := rfl
@[simp] theorem an229 : An.fn 229 = { own := [], keep := [(3, [1, 2, 5], [32]), (7, [1, 2, 5, 6, 7], [32, 224, 225, 226, 227]), (10, [1, 2, 5, 6, 7, 8], [32, 224, 225, 226, 227])] } := rfl
@[simp] theorem an230 : An.fn 230 = { own := [], keep := [(4, [0, 1, 5], [])] } := rfl
@[simp] theorem an231 : An.fn 231 = { own := [], keep := [(3, [1, 2, 3, 4, 9, 10], [64, 1488, 1489, 1490, 1491]), (6, [1, 2, 3, 4, 9, 10, 11], [64, 1488, 1489, 1490, 1491]), (14, [1, 2, 3, 4, 9, 13], [64, 1488, 1489, 1490, 1491])] } := rfl
@[simp] theorem an232 : An.fn 232 = { own := [], keep := [(8, [7, 8], [480])] } := rfl
@[simp] theorem an233 : An.fn 233 = { own := [], keep := [] } := rfl
@[simp] theorem an234 : An.fn 234 = { own := [], keep := [(2, [0, 1, 2, 3, 8, 9], [100000, 100001, 100002])] } := rfl
@[simp] theorem an235 : An.fn 235 = { own := [], keep := [] } := rfl
@[simp] theorem an236 : An.fn 236 = { own := [], keep := [(1, [0, 1], [])] } := rfl
@[simp] theorem an237 : An.fn 237 = { own := [], keep := [] } := rfl
@[simp] theorem an238 : An.fn 238 = { own := [], keep := [] } := rfl
@[simp] theorem an239 : An.fn 239 = { own := [14], keep := [(3, [0, 2, 3, 4], [32, 48, 112, 512]), (7, [0, 2, 3, 4, 5, 6], [32, 48, 112, 224, 432, 512])] } := rfl
@[simp] theorem an240 : An.fn 240 = { own := [22], keep := [(3, [2, 3, 4, 5, 6, 7], [32, 48, 64, 96, 192, 1040]), (7, [2, 3, 4, 5, 6, 7, 8, 9], [32, 48, 64, 96, 192, 352, 960, 1040])] } := rfl
@[simp] theorem an241 : An.fn 241 = { own := [22], keep := [(3, [0, 1, 4, 5, 6], [64, 80, 224, 1152]), (7, [0, 1, 4, 5, 6, 7, 8], [64, 80, 224, 352, 1072, 1152])] } := rfl
@[simp] theorem an242 : An.fn 242 = { own := [8], keep := [(3, [0, 1, 5, 6], [128, 336, 337, 338, 339, 384, 448])] } := rfl
@[simp] theorem an243 : An.fn 243 = { own := [25], keep := [] } := rfl
@[simp] theorem an244 : An.fn 244 = { own := [], keep := [] } := rfl
@[simp] theorem an245 : An.fn 245 = { own := [], keep := [(1, [0, 1, 2, 6], [100000, 100001, 100002]), (4, [0, 1, 2, 6, 7], [100000, 100001, 100002])] } := rfl
@[simp] theorem an246 : An.fn 246 = { own := [], keep := [(4, [0, 6, 7, 8, 9], []), (8, [0, 6, 7, 10], [])] } := rfl
@[simp] theorem an247 : An.fn 247 = { own := [], keep := [(5, [0, 1, 6, 7, 8, 9], [112])] } := rfl
@[simp] theorem an248 : An.fn 248 = { own := [], keep := [] } := rfl
@[simp] theorem an249 : An.fn 249 = { own := [], keep := [(2, [0, 6, 7], [])] } := rfl
@[simp] theorem an250 : An.fn 250 = { own := [], keep := [(3, [0, 1, 2, 7, 8], []), (5, [0, 1, 2, 7, 8], []), (14, [0, 1, 2, 7, 8, 9], []), (20, [0, 1, 2, 7, 8, 10], [])] } := rfl
@[simp] theorem an251 : An.fn 251 = { own := [], keep := [] } := rfl
@[simp] theorem an252 : An.fn 252 = { own := [], keep := [(3, [0, 1, 9, 10], []), (5, [0, 1, 9, 10], [])] } := rfl
@[simp] theorem an253 : An.fn 253 = { own := [], keep := [(3, [0, 1, 10, 11], []), (5, [0, 1, 10, 11], []), (13, [0, 1, 10, 11], []), (15, [0, 1, 10, 11], [])] } := rfl
@[simp] theorem an254 : An.fn 254 = { own := [], keep := [] } := rfl
@[simp] theorem an255 : An.fn 255 = { own := [], keep := [] } := rfl
@[simp] theorem an256 : An.fn 256 = { own := [], keep := [] } := rfl
@[simp] theorem an257 : An.fn 257 = { own := [], keep := [] } := rfl
@[simp] theorem an258 : An.fn 258 = { own := [], keep := [(1, [0, 2, 3, 8], [])] } := rfl
@[simp] theorem an259 : An.fn 259 = { own := [], keep := [] } := rfl
@[simp] theorem an260 : An.fn 260 = { own := [], keep := [] } := rfl
@[simp] theorem an261 : An.fn 261 = { own := [], keep := [] } := rfl
@[simp] theorem an262 : An.fn 262 = { own := [], keep := [] } := rfl
@[simp] theorem an263 : An.fn 263 = { own := [], keep := [] } := rfl
@[simp] theorem an264 : An.fn 264 = { own := [], keep := [] } := rfl
noncomputable def cxAt (k m : Nat) : Cx := { P := Tryz.prog, call := evalCall Tryz.prog An m, lend := An.lend, rounds := m, ann := An.fn k }
@[simp] theorem cxAt_P (k m : Nat) : (cxAt k m).P = Tryz.prog := rfl
@[simp] theorem cxAt_call (k m : Nat) : (cxAt k m).call = evalCall Tryz.prog An m := rfl
@[simp] theorem cxAt_lend (k m : Nat) : (cxAt k m).lend = An.lend := rfl
@[simp] theorem cxAt_rounds (k m : Nat) : (cxAt k m).rounds = m := rfl
@[simp] theorem cxAt_ann (k m : Nat) : (cxAt k m).ann = An.fn k := rfl
theorem evalCall_at (k m : Nat) (args : List AV) (lent : List Ob) : evalCall Tryz.prog An (m + 1) k args lent = bnd (fbody Tryz.prog k) fun fb => bnd (evalCode (cxAt k m) fb.body { env := argEnv 0 args, obs := lentObs 0 lent, g := 1 }) fun r => callRes Tryz.prog lent r fb.results := rfl
end Go.Proofs.YtnfhglplafmfiaaGreatE
