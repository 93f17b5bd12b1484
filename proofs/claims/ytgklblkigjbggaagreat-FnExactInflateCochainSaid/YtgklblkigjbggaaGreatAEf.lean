/- Facts of this program's types and functions, as the evaluator asks for them; written by a program of this session. -/
import Derived.Test.YtgklblkigjbggaaGreatAEd
import Derived.Test.YtgklblkigjbggaaGreatProg
import Derived.KernelRfl
namespace Go.Proofs.YtgklblkigjbggaaGreatE
open Go Go.Proofs
@[simp] theorem tk2 : tk Tryz.prog 2 = TK.int IntKind.i64 := by kernel_rfl
@[simp] theorem sz2 : sz Tryz.prog 2 = 1 := by kernel_rfl
@[simp] theorem byts2 : byts Tryz.prog 2 = 8 := by kernel_rfl
@[simp] theorem zer2 : zer Tryz.prog 2 = some ((AV.d (D.int IntKind.i64 (0)))) := by kernel_rfl
@[simp] theorem tk3 : tk Tryz.prog 3 = TK.int IntKind.i64 := by kernel_rfl
@[simp] theorem sz3 : sz Tryz.prog 3 = 1 := by kernel_rfl
@[simp] theorem byts3 : byts Tryz.prog 3 = 8 := by kernel_rfl
@[simp] theorem zer3 : zer Tryz.prog 3 = some ((AV.d (D.int IntKind.i64 (0)))) := by kernel_rfl
@[simp] theorem tk4 : tk Tryz.prog 4 = TK.bool := by kernel_rfl
@[simp] theorem sz4 : sz Tryz.prog 4 = 1 := by kernel_rfl
@[simp] theorem byts4 : byts Tryz.prog 4 = 1 := by kernel_rfl
@[simp] theorem zer4 : zer Tryz.prog 4 = some ((AV.d (D.bool false))) := by kernel_rfl
@[simp] theorem tk5 : tk Tryz.prog 5 = TK.int IntKind.u8 := by kernel_rfl
@[simp] theorem sz5 : sz Tryz.prog 5 = 1 := by kernel_rfl
@[simp] theorem byts5 : byts Tryz.prog 5 = 1 := by kernel_rfl
@[simp] theorem zer5 : zer Tryz.prog 5 = some ((AV.d (D.int IntKind.u8 (0)))) := by kernel_rfl
@[simp] theorem tk9 : tk Tryz.prog 9 = TK.string := by kernel_rfl
@[simp] theorem sz9 : sz Tryz.prog 9 = 1 := by kernel_rfl
@[simp] theorem byts9 : byts Tryz.prog 9 = 16 := by kernel_rfl
@[simp] theorem zer9 : zer Tryz.prog 9 = some ((AV.d (D.str ByteArray.empty))) := by kernel_rfl
@[simp] theorem tk22 : tk Tryz.prog 22 = TK.slice 25 := by kernel_rfl
@[simp] theorem sz22 : sz Tryz.prog 22 = 1 := by kernel_rfl
@[simp] theorem byts22 : byts Tryz.prog 22 = 24 := by kernel_rfl
@[simp] theorem zer22 : zer Tryz.prog 22 = some ((AV.d D.nil)) := by kernel_rfl
@[simp] theorem tk24 : tk Tryz.prog 24 = TK.struct [(0, 22)] := by kernel_rfl
@[simp] theorem sz24 : sz Tryz.prog 24 = 1 := by kernel_rfl
@[simp] theorem byts24 : byts Tryz.prog 24 = 24 := by kernel_rfl
@[simp] theorem zer24 : zer Tryz.prog 24 = some ((AV.agg [AV.d D.nil])) := by kernel_rfl
@[simp] theorem tk25 : tk Tryz.prog 25 = TK.slice 2 := by kernel_rfl
@[simp] theorem sz25 : sz Tryz.prog 25 = 1 := by kernel_rfl
@[simp] theorem byts25 : byts Tryz.prog 25 = 24 := by kernel_rfl
@[simp] theorem zer25 : zer Tryz.prog 25 = some ((AV.d D.nil)) := by kernel_rfl
@[simp] theorem tk27 : tk Tryz.prog 27 = TK.struct [(0, 2), (1, 25)] := by kernel_rfl
@[simp] theorem sz27 : sz Tryz.prog 27 = 2 := by kernel_rfl
@[simp] theorem byts27 : byts Tryz.prog 27 = 32 := by kernel_rfl
@[simp] theorem zer27 : zer Tryz.prog 27 = some ((AV.agg [AV.d (D.int IntKind.i64 (0)), AV.d D.nil])) := by kernel_rfl
@[simp] theorem tk32 : tk Tryz.prog 32 = TK.struct [(0, 22)] := by kernel_rfl
@[simp] theorem sz32 : sz Tryz.prog 32 = 1 := by kernel_rfl
@[simp] theorem byts32 : byts Tryz.prog 32 = 24 := by kernel_rfl
@[simp] theorem zer32 : zer Tryz.prog 32 = some ((AV.agg [AV.d D.nil])) := by kernel_rfl
@[simp] theorem tk34 : tk Tryz.prog 34 = TK.struct [(0, 2), (1, 25)] := by kernel_rfl
@[simp] theorem sz34 : sz Tryz.prog 34 = 2 := by kernel_rfl
@[simp] theorem byts34 : byts Tryz.prog 34 = 32 := by kernel_rfl
@[simp] theorem zer34 : zer Tryz.prog 34 = some ((AV.agg [AV.d (D.int IntKind.i64 (0)), AV.d D.nil])) := by kernel_rfl
@[simp] theorem tk44 : tk Tryz.prog 44 = TK.struct [(0, 2), (1, 25)] := by kernel_rfl
@[simp] theorem sz44 : sz Tryz.prog 44 = 2 := by kernel_rfl
@[simp] theorem byts44 : byts Tryz.prog 44 = 32 := by kernel_rfl
@[simp] theorem zer44 : zer Tryz.prog 44 = some ((AV.agg [AV.d (D.int IntKind.i64 (0)), AV.d D.nil])) := by kernel_rfl
@[simp] theorem tk48 : tk Tryz.prog 48 = TK.struct [(0, 2), (1, 25)] := by kernel_rfl
@[simp] theorem sz48 : sz Tryz.prog 48 = 2 := by kernel_rfl
@[simp] theorem byts48 : byts Tryz.prog 48 = 32 := by kernel_rfl
@[simp] theorem zer48 : zer Tryz.prog 48 = some ((AV.agg [AV.d (D.int IntKind.i64 (0)), AV.d D.nil])) := by kernel_rfl
@[simp] theorem tk68 : tk Tryz.prog 68 = TK.int IntKind.u64 := by kernel_rfl
@[simp] theorem sz68 : sz Tryz.prog 68 = 1 := by kernel_rfl
@[simp] theorem byts68 : byts Tryz.prog 68 = 8 := by kernel_rfl
@[simp] theorem zer68 : zer Tryz.prog 68 = some ((AV.d (D.int IntKind.u64 (0)))) := by kernel_rfl
@[simp] theorem tk76 : tk Tryz.prog 76 = TK.func := by kernel_rfl
@[simp] theorem sz76 : sz Tryz.prog 76 = 1 := by kernel_rfl
@[simp] theorem byts76 : byts Tryz.prog 76 = 8 := by kernel_rfl
@[simp] theorem tk93 : tk Tryz.prog 93 = TK.func := by kernel_rfl
@[simp] theorem sz93 : sz Tryz.prog 93 = 1 := by kernel_rfl
@[simp] theorem byts93 : byts Tryz.prog 93 = 8 := by kernel_rfl
@[simp] theorem tk96 : tk Tryz.prog 96 = TK.func := by kernel_rfl
@[simp] theorem sz96 : sz Tryz.prog 96 = 1 := by kernel_rfl
@[simp] theorem byts96 : byts Tryz.prog 96 = 8 := by kernel_rfl
@[simp] theorem tk100 : tk Tryz.prog 100 = TK.func := by kernel_rfl
@[simp] theorem sz100 : sz Tryz.prog 100 = 1 := by kernel_rfl
@[simp] theorem byts100 : byts Tryz.prog 100 = 8 := by kernel_rfl
@[simp] theorem tk134 : tk Tryz.prog 134 = TK.func := by kernel_rfl
@[simp] theorem sz134 : sz Tryz.prog 134 = 1 := by kernel_rfl
@[simp] theorem byts134 : byts Tryz.prog 134 = 8 := by kernel_rfl
@[simp] theorem tk138 : tk Tryz.prog 138 = TK.slice 4 := by kernel_rfl
@[simp] theorem sz138 : sz Tryz.prog 138 = 1 := by kernel_rfl
@[simp] theorem byts138 : byts Tryz.prog 138 = 24 := by kernel_rfl
@[simp] theorem zer138 : zer Tryz.prog 138 = some ((AV.d D.nil)) := by kernel_rfl
@[simp] theorem tk139 : tk Tryz.prog 139 = TK.slice 34 := by kernel_rfl
@[simp] theorem sz139 : sz Tryz.prog 139 = 1 := by kernel_rfl
@[simp] theorem byts139 : byts Tryz.prog 139 = 24 := by kernel_rfl
@[simp] theorem zer139 : zer Tryz.prog 139 = some ((AV.d D.nil)) := by kernel_rfl
@[simp] theorem tk165 : tk Tryz.prog 165 = TK.int IntKind.u64 := by kernel_rfl
@[simp] theorem sz165 : sz Tryz.prog 165 = 1 := by kernel_rfl
@[simp] theorem byts165 : byts Tryz.prog 165 = 8 := by kernel_rfl
@[simp] theorem zer165 : zer Tryz.prog 165 = some ((AV.d (D.int IntKind.u64 (0)))) := by kernel_rfl
@[simp] theorem tk166 : tk Tryz.prog 166 = TK.slice 48 := by kernel_rfl
@[simp] theorem sz166 : sz Tryz.prog 166 = 1 := by kernel_rfl
@[simp] theorem byts166 : byts Tryz.prog 166 = 24 := by kernel_rfl
@[simp] theorem zer166 : zer Tryz.prog 166 = some ((AV.d D.nil)) := by kernel_rfl
@[simp] theorem tk186 : tk Tryz.prog 186 = TK.int IntKind.i64 := by kernel_rfl
@[simp] theorem sz186 : sz Tryz.prog 186 = 1 := by kernel_rfl
@[simp] theorem byts186 : byts Tryz.prog 186 = 8 := by kernel_rfl
@[simp] theorem zer186 : zer Tryz.prog 186 = some ((AV.d (D.int IntKind.i64 (0)))) := by kernel_rfl
@[simp] theorem tk195 : tk Tryz.prog 195 = TK.int IntKind.u32 := by kernel_rfl
@[simp] theorem sz195 : sz Tryz.prog 195 = 1 := by kernel_rfl
@[simp] theorem byts195 : byts Tryz.prog 195 = 4 := by kernel_rfl
@[simp] theorem zer195 : zer Tryz.prog 195 = some ((AV.d (D.int IntKind.u32 (0)))) := by kernel_rfl
@[simp] theorem tk203 : tk Tryz.prog 203 = TK.int IntKind.u64 := by kernel_rfl
@[simp] theorem sz203 : sz Tryz.prog 203 = 1 := by kernel_rfl
@[simp] theorem byts203 : byts Tryz.prog 203 = 8 := by kernel_rfl
@[simp] theorem zer203 : zer Tryz.prog 203 = some ((AV.d (D.int IntKind.u64 (0)))) := by kernel_rfl
@[simp] theorem tk207 : tk Tryz.prog 207 = TK.other := by kernel_rfl
@[simp] theorem sz207 : sz Tryz.prog 207 = 1 := by kernel_rfl
@[simp] theorem byts207 : byts Tryz.prog 207 = 8 := by kernel_rfl
@[simp] theorem fb3 : fbody Tryz.prog 3 = some ⟨bodyOf Tryz.f3, 124, [.tmp 6]⟩ := by kernel_rfl
@[simp] theorem fb4 : fbody Tryz.prog 4 = some ⟨bodyOf Tryz.f4, 163, [.tmp 8]⟩ := by kernel_rfl
@[simp] theorem fb5 : fbody Tryz.prog 5 = some ⟨bodyOf Tryz.f5, 168, [.tmp 10]⟩ := by kernel_rfl
@[simp] theorem fb6 : fbody Tryz.prog 6 = some ⟨bodyOf Tryz.f6, 163, [.tmp 8]⟩ := by kernel_rfl
@[simp] theorem fb7 : fbody Tryz.prog 7 = some ⟨bodyOf Tryz.f7, 200, [.tmp 8]⟩ := by kernel_rfl
@[simp] theorem fb11 : fbody Tryz.prog 11 = some ⟨bodyOf Tryz.f11, 12, [.tmp 4]⟩ := by kernel_rfl
@[simp] theorem fb12 : fbody Tryz.prog 12 = some ⟨bodyOf Tryz.f12, 12, [.tmp 4]⟩ := by kernel_rfl
@[simp] theorem fb13 : fbody Tryz.prog 13 = some ⟨bodyOf Tryz.f13, 68, [.tmp 6, .tmp 7]⟩ := by kernel_rfl
@[simp] theorem fb14 : fbody Tryz.prog 14 = some ⟨bodyOf Tryz.f14, 9, [.cell 2 32]⟩ := by kernel_rfl
@[simp] theorem fb15 : fbody Tryz.prog 15 = some ⟨bodyOf Tryz.f15, 12, [.cell 2 34]⟩ := by kernel_rfl
@[simp] theorem fb16 : fbody Tryz.prog 16 = some ⟨bodyOf Tryz.f16, 25, [.tmp 6, .tmp 7]⟩ := by kernel_rfl
@[simp] theorem fb17 : fbody Tryz.prog 17 = some ⟨bodyOf Tryz.f17, 27, [.tmp 4]⟩ := by kernel_rfl
@[simp] theorem fb18 : fbody Tryz.prog 18 = some ⟨bodyOf Tryz.f18, 11, [.tmp 4]⟩ := by kernel_rfl
@[simp] theorem fb19 : fbody Tryz.prog 19 = some ⟨bodyOf Tryz.f19, 16, [.tmp 4]⟩ := by kernel_rfl
@[simp] theorem fb20 : fbody Tryz.prog 20 = some ⟨bodyOf Tryz.f20, 10, [.tmp 4]⟩ := by kernel_rfl
@[simp] theorem fb21 : fbody Tryz.prog 21 = some ⟨bodyOf Tryz.f21, 10, [.tmp 4]⟩ := by kernel_rfl
@[simp] theorem fb22 : fbody Tryz.prog 22 = some ⟨bodyOf Tryz.f22, 19, [.tmp 4]⟩ := by kernel_rfl
@[simp] theorem fb23 : fbody Tryz.prog 23 = some ⟨bodyOf Tryz.f23, 21, [.tmp 4]⟩ := by kernel_rfl
@[simp] theorem fb24 : fbody Tryz.prog 24 = some ⟨bodyOf Tryz.f24, 12, [.tmp 4]⟩ := by kernel_rfl
@[simp] theorem fb25 : fbody Tryz.prog 25 = some ⟨bodyOf Tryz.f25, 42, [.cell 8 34, .tmp 9]⟩ := by kernel_rfl
@[simp] theorem fb26 : fbody Tryz.prog 26 = some ⟨bodyOf Tryz.f26, 12, [.cell 2 48]⟩ := by kernel_rfl
@[simp] theorem fb27 : fbody Tryz.prog 27 = some ⟨bodyOf Tryz.f27, 22, [.tmp 2]⟩ := by kernel_rfl
@[simp] theorem fb28 : fbody Tryz.prog 28 = some ⟨bodyOf Tryz.f28, 43, [.cell 8 34, .tmp 9]⟩ := by kernel_rfl
@[simp] theorem fb29 : fbody Tryz.prog 29 = some ⟨bodyOf Tryz.f29, 16, [.tmp 4]⟩ := by kernel_rfl
@[simp] theorem fb30 : fbody Tryz.prog 30 = some ⟨bodyOf Tryz.f30, 26, [.tmp 4]⟩ := by kernel_rfl
@[simp] theorem fb31 : fbody Tryz.prog 31 = some ⟨bodyOf Tryz.f31, 10, [.tmp 4]⟩ := by kernel_rfl
@[simp] theorem fb32 : fbody Tryz.prog 32 = some ⟨bodyOf Tryz.f32, 19, [.tmp 4]⟩ := by kernel_rfl
@[simp] theorem fb33 : fbody Tryz.prog 33 = some ⟨bodyOf Tryz.f33, 12, [.tmp 4]⟩ := by kernel_rfl
@[simp] theorem fb34 : fbody Tryz.prog 34 = some ⟨bodyOf Tryz.f34, 123, [.cell 10 34, .tmp 11]⟩ := by kernel_rfl
@[simp] theorem fb35 : fbody Tryz.prog 35 = some ⟨bodyOf Tryz.f35, 54, [.cell 10 34, .tmp 11]⟩ := by kernel_rfl
@[simp] theorem fb36 : fbody Tryz.prog 36 = some ⟨bodyOf Tryz.f36, 123, [.cell 8 34, .tmp 9]⟩ := by kernel_rfl
@[simp] theorem fb37 : fbody Tryz.prog 37 = some ⟨bodyOf Tryz.f37, 53, [.cell 8 34, .tmp 9]⟩ := by kernel_rfl
@[simp] theorem fb38 : fbody Tryz.prog 38 = some ⟨bodyOf Tryz.f38, 58, [.cell 8 48, .cell 9 34, .tmp 10]⟩ := by kernel_rfl
@[simp] theorem fb39 : fbody Tryz.prog 39 = some ⟨bodyOf Tryz.f39, 58, [.cell 8 48, .cell 9 34, .tmp 10]⟩ := by kernel_rfl
@[simp] theorem fb40 : fbody Tryz.prog 40 = some ⟨bodyOf Tryz.f40, 12, [.tmp 4]⟩ := by kernel_rfl
@[simp] theorem fb43 : fbody Tryz.prog 43 = some ⟨bodyOf Tryz.f43, 21, [.tmp 4]⟩ := by kernel_rfl
@[simp] theorem fb48 : fbody Tryz.prog 48 = some ⟨bodyOf Tryz.f48, 27, [.tmp 4]⟩ := by kernel_rfl
@[simp] theorem fb49 : fbody Tryz.prog 49 = some ⟨bodyOf Tryz.f49, 12, [.tmp 4]⟩ := by kernel_rfl
@[simp] theorem fb50 : fbody Tryz.prog 50 = some ⟨bodyOf Tryz.f50, 38, [.tmp 6]⟩ := by kernel_rfl
@[simp] theorem fb51 : fbody Tryz.prog 51 = some ⟨bodyOf Tryz.f51, 46, [.tmp 6]⟩ := by kernel_rfl
@[simp] theorem fb52 : fbody Tryz.prog 52 = some ⟨bodyOf Tryz.f52, 6, [.tmp 2]⟩ := by kernel_rfl
@[simp] theorem fb53 : fbody Tryz.prog 53 = some ⟨bodyOf Tryz.f53, 24, [.tmp 6]⟩ := by kernel_rfl
@[simp] theorem fb54 : fbody Tryz.prog 54 = some ⟨bodyOf Tryz.f54, 21, [.tmp 2]⟩ := by kernel_rfl
@[simp] theorem fb55 : fbody Tryz.prog 55 = some ⟨bodyOf Tryz.f55, 23, [.tmp 2]⟩ := by kernel_rfl
@[simp] theorem fb56 : fbody Tryz.prog 56 = some ⟨bodyOf Tryz.f56, 35, [.tmp 6]⟩ := by kernel_rfl
@[simp] theorem fb57 : fbody Tryz.prog 57 = some ⟨bodyOf Tryz.f57, 15, [.tmp 6]⟩ := by kernel_rfl
@[simp] theorem fb58 : fbody Tryz.prog 58 = some ⟨bodyOf Tryz.f58, 42, [.tmp 4]⟩ := by kernel_rfl
@[simp] theorem fb59 : fbody Tryz.prog 59 = some ⟨bodyOf Tryz.f59, 53, [.tmp 2]⟩ := by kernel_rfl
@[simp] theorem fb60 : fbody Tryz.prog 60 = some ⟨bodyOf Tryz.f60, 10, [.tmp 3]⟩ := by kernel_rfl
@[simp] theorem fb61 : fbody Tryz.prog 61 = some ⟨bodyOf Tryz.f61, 9, [.tmp 4]⟩ := by kernel_rfl
@[simp] theorem fb62 : fbody Tryz.prog 62 = some ⟨bodyOf Tryz.f62, 31, [.tmp 6]⟩ := by kernel_rfl
@[simp] theorem fb63 : fbody Tryz.prog 63 = some ⟨bodyOf Tryz.f63, 16, [.tmp 4]⟩ := by kernel_rfl
@[simp] theorem fb64 : fbody Tryz.prog 64 = some ⟨bodyOf Tryz.f64, 85, [.cell 10 48, .cell 11 34]⟩ := by kernel_rfl
@[simp] theorem fb65 : fbody Tryz.prog 65 = some ⟨bodyOf Tryz.f65, 50, [.cell 4 32]⟩ := by kernel_rfl
@[simp] theorem fb66 : fbody Tryz.prog 66 = some ⟨bodyOf Tryz.f66, 26, [.tmp 6]⟩ := by kernel_rfl
@[simp] theorem fb67 : fbody Tryz.prog 67 = some ⟨bodyOf Tryz.f67, 31, [.tmp 8]⟩ := by kernel_rfl
@[simp] theorem fb68 : fbody Tryz.prog 68 = some ⟨bodyOf Tryz.f68, 23, [.cell 10 48, .cell 11 34]⟩ := by kernel_rfl
@[simp] theorem fb69 : fbody Tryz.prog 69 = some ⟨bodyOf Tryz.f69, 9, [.cell 4 32]⟩ := by kernel_rfl
@[simp] theorem fb70 : fbody Tryz.prog 70 = some ⟨bodyOf Tryz.f70, 137, [.tmp 2]⟩ := by kernel_rfl
@[simp] theorem fb71 : fbody Tryz.prog 71 = some ⟨bodyOf Tryz.f71, 90, [.tmp 4]⟩ := by kernel_rfl
@[simp] theorem fb72 : fbody Tryz.prog 72 = some ⟨bodyOf Tryz.f72, 29, [.tmp 4]⟩ := by kernel_rfl
@[simp] theorem fb73 : fbody Tryz.prog 73 = some ⟨bodyOf Tryz.f73, 24, [.tmp 4]⟩ := by kernel_rfl
@[simp] theorem fb74 : fbody Tryz.prog 74 = some ⟨bodyOf Tryz.f74, 39, [.tmp 6]⟩ := by kernel_rfl
@[simp] theorem fb75 : fbody Tryz.prog 75 = some ⟨bodyOf Tryz.f75, 31, [.cell 4 48]⟩ := by kernel_rfl
@[simp] theorem fb76 : fbody Tryz.prog 76 = some ⟨bodyOf Tryz.f76, 28, [.tmp 6]⟩ := by kernel_rfl
@[simp] theorem fb77 : fbody Tryz.prog 77 = some ⟨bodyOf Tryz.f77, 22, [.tmp 4]⟩ := by kernel_rfl
@[simp] theorem fb78 : fbody Tryz.prog 78 = some ⟨bodyOf Tryz.f78, 32, [.tmp 6]⟩ := by kernel_rfl
@[simp] theorem fb79 : fbody Tryz.prog 79 = some ⟨bodyOf Tryz.f79, 19, [.tmp 4]⟩ := by kernel_rfl
@[simp] theorem fb80 : fbody Tryz.prog 80 = some ⟨bodyOf Tryz.f80, 12, [.tmp 4]⟩ := by kernel_rfl
@[simp] theorem fb81 : fbody Tryz.prog 81 = some ⟨bodyOf Tryz.f81, 36, [.tmp 6]⟩ := by kernel_rfl
@[simp] theorem fb82 : fbody Tryz.prog 82 = some ⟨bodyOf Tryz.f82, 27, [.tmp 6]⟩ := by kernel_rfl
@[simp] theorem fb83 : fbody Tryz.prog 83 = some ⟨bodyOf Tryz.f83, 13, [.cell 6 48]⟩ := by kernel_rfl
@[simp] theorem fb84 : fbody Tryz.prog 84 = some ⟨bodyOf Tryz.f84, 14, [.tmp 6]⟩ := by kernel_rfl
@[simp] theorem fb85 : fbody Tryz.prog 85 = some ⟨bodyOf Tryz.f85, 11, [.tmp 4]⟩ := by kernel_rfl
@[simp] theorem fb86 : fbody Tryz.prog 86 = some ⟨bodyOf Tryz.f86, 38, [.cell 8 34]⟩ := by kernel_rfl
@[simp] theorem fb87 : fbody Tryz.prog 87 = some ⟨bodyOf Tryz.f87, 23, [.tmp 10]⟩ := by kernel_rfl
@[simp] theorem fb88 : fbody Tryz.prog 88 = some ⟨bodyOf Tryz.f88, 18, [.tmp 6]⟩ := by kernel_rfl
@[simp] theorem fb89 : fbody Tryz.prog 89 = some ⟨bodyOf Tryz.f89, 23, [.tmp 4]⟩ := by kernel_rfl
@[simp] theorem fb90 : fbody Tryz.prog 90 = some ⟨bodyOf Tryz.f90, 16, [.tmp 6]⟩ := by kernel_rfl
@[simp] theorem fb91 : fbody Tryz.prog 91 = some ⟨bodyOf Tryz.f91, 19, [.tmp 4]⟩ := by kernel_rfl
@[simp] theorem fb92 : fbody Tryz.prog 92 = some ⟨bodyOf Tryz.f92, 15, [.tmp 6]⟩ := by kernel_rfl
@[simp] theorem fb93 : fbody Tryz.prog 93 = some ⟨bodyOf Tryz.f93, 19, [.tmp 6]⟩ := by kernel_rfl
@[simp] theorem fb94 : fbody Tryz.prog 94 = some ⟨bodyOf Tryz.f94, 61, [.tmp 4, .tmp 5]⟩ := by kernel_rfl
@[simp] theorem fb95 : fbody Tryz.prog 95 = some ⟨bodyOf Tryz.f95, 11, [.cell 4 34]⟩ := by kernel_rfl
@[simp] theorem fb96 : fbody Tryz.prog 96 = some ⟨bodyOf Tryz.f96, 40, [.tmp 10, .tmp 11]⟩ := by kernel_rfl
@[simp] theorem fb97 : fbody Tryz.prog 97 = some ⟨bodyOf Tryz.f97, 50, [.tmp 4, .tmp 5]⟩ := by kernel_rfl
@[simp] theorem fb98 : fbody Tryz.prog 98 = some ⟨bodyOf Tryz.f98, 75, [.tmp 9]⟩ := by kernel_rfl
@[simp] theorem fb99 : fbody Tryz.prog 99 = some ⟨bodyOf Tryz.f99, 24, [.tmp 4]⟩ := by kernel_rfl
@[simp] theorem fb100 : fbody Tryz.prog 100 = some ⟨bodyOf Tryz.f100, 34, [.tmp 4]⟩ := by kernel_rfl
@[simp] theorem fb101 : fbody Tryz.prog 101 = some ⟨bodyOf Tryz.f101, 61, [.cell 4 32, .tmp 5]⟩ := by kernel_rfl
@[simp] theorem fb102 : fbody Tryz.prog 102 = some ⟨bodyOf Tryz.f102, 16, [.tmp 4]⟩ := by kernel_rfl
@[simp] theorem fb103 : fbody Tryz.prog 103 = some ⟨bodyOf Tryz.f103, 28, [.tmp 4]⟩ := by kernel_rfl
@[simp] theorem fb104 : fbody Tryz.prog 104 = some ⟨bodyOf Tryz.f104, 19, [.cell 4 32, .tmp 5]⟩ := by kernel_rfl
@[simp] theorem fb106 : fbody Tryz.prog 106 = some ⟨bodyOf Tryz.f106, 15, [.tmp 6]⟩ := by kernel_rfl
@[simp] theorem fb125 : fbody Tryz.prog 125 = some ⟨bodyOf Tryz.f125, 110, [.tmp 2]⟩ := by kernel_rfl
@[simp] theorem fb129 : fbody Tryz.prog 129 = some ⟨bodyOf Tryz.f129, 6, [.tmp 2]⟩ := by kernel_rfl
@[simp] theorem fb131 : fbody Tryz.prog 131 = some ⟨bodyOf Tryz.f131, 12, [.cell 4 48]⟩ := by kernel_rfl
@[simp] theorem fb135 : fbody Tryz.prog 135 = some ⟨bodyOf Tryz.f135, 23, [.cell 4 48]⟩ := by kernel_rfl
@[simp] theorem fb136 : fbody Tryz.prog 136 = some ⟨bodyOf Tryz.f136, 28, [.tmp 6]⟩ := by kernel_rfl
@[simp] theorem fb137 : fbody Tryz.prog 137 = some ⟨bodyOf Tryz.f137, 68, [.tmp 6]⟩ := by kernel_rfl
@[simp] theorem fb138 : fbody Tryz.prog 138 = some ⟨bodyOf Tryz.f138, 9, [.tmp 2]⟩ := by kernel_rfl
@[simp] theorem fb139 : fbody Tryz.prog 139 = some ⟨bodyOf Tryz.f139, 22, [.tmp 6]⟩ := by kernel_rfl
@[simp] theorem fb140 : fbody Tryz.prog 140 = some ⟨bodyOf Tryz.f140, 52, [.tmp 6]⟩ := by kernel_rfl
@[simp] theorem fb141 : fbody Tryz.prog 141 = some ⟨bodyOf Tryz.f141, 10, [.tmp 4]⟩ := by kernel_rfl
@[simp] theorem fb142 : fbody Tryz.prog 142 = some ⟨bodyOf Tryz.f142, 10, [.tmp 3]⟩ := by kernel_rfl
@[simp] theorem fb143 : fbody Tryz.prog 143 = some ⟨bodyOf Tryz.f143, 9, [.tmp 4]⟩ := by kernel_rfl
@[simp] theorem fb144 : fbody Tryz.prog 144 = some ⟨bodyOf Tryz.f144, 5, [.tmp 2]⟩ := by kernel_rfl
@[simp] theorem fb145 : fbody Tryz.prog 145 = some ⟨bodyOf Tryz.f145, 19, [.tmp 4]⟩ := by kernel_rfl
@[simp] theorem fb146 : fbody Tryz.prog 146 = some ⟨bodyOf Tryz.f146, 11, []⟩ := by kernel_rfl
@[simp] theorem fb147 : fbody Tryz.prog 147 = some ⟨bodyOf Tryz.f147, 23, [.tmp 4]⟩ := by kernel_rfl
@[simp] theorem fb148 : fbody Tryz.prog 148 = some ⟨bodyOf Tryz.f148, 16, [.tmp 4]⟩ := by kernel_rfl
@[simp] theorem fb149 : fbody Tryz.prog 149 = some ⟨bodyOf Tryz.f149, 23, [.tmp 4]⟩ := by kernel_rfl
@[simp] theorem fb150 : fbody Tryz.prog 150 = some ⟨bodyOf Tryz.f150, 9, [.tmp 4]⟩ := by kernel_rfl
@[simp] theorem fb151 : fbody Tryz.prog 151 = some ⟨bodyOf Tryz.f151, 30, [.tmp 4]⟩ := by kernel_rfl
@[simp] theorem fb152 : fbody Tryz.prog 152 = some ⟨bodyOf Tryz.f152, 21, [.tmp 4]⟩ := by kernel_rfl
@[simp] theorem fb153 : fbody Tryz.prog 153 = some ⟨bodyOf Tryz.f153, 12, [.cell 6 48]⟩ := by kernel_rfl
@[simp] theorem fb154 : fbody Tryz.prog 154 = some ⟨bodyOf Tryz.f154, 12, [.tmp 5]⟩ := by kernel_rfl
@[simp] theorem fb155 : fbody Tryz.prog 155 = some ⟨bodyOf Tryz.f155, 8, [.tmp 3]⟩ := by kernel_rfl
@[simp] theorem fb156 : fbody Tryz.prog 156 = some ⟨bodyOf Tryz.f156, 35, [.cell 4 32]⟩ := by kernel_rfl
@[simp] theorem fb157 : fbody Tryz.prog 157 = some ⟨bodyOf Tryz.f157, 20, [.tmp 6]⟩ := by kernel_rfl
@[simp] theorem fb158 : fbody Tryz.prog 158 = some ⟨bodyOf Tryz.f158, 17, [.tmp 4]⟩ := by kernel_rfl
@[simp] theorem fb159 : fbody Tryz.prog 159 = some ⟨bodyOf Tryz.f159, 9, [.tmp 2]⟩ := by kernel_rfl
@[simp] theorem fb160 : fbody Tryz.prog 160 = some ⟨bodyOf Tryz.f160, 10, [.tmp 4]⟩ := by kernel_rfl
@[simp] theorem fb161 : fbody Tryz.prog 161 = some ⟨bodyOf Tryz.f161, 9, [.tmp 4]⟩ := by kernel_rfl
@[simp] theorem fb162 : fbody Tryz.prog 162 = some ⟨bodyOf Tryz.f162, 11, [.cell 4 34]⟩ := by kernel_rfl
@[simp] theorem fb163 : fbody Tryz.prog 163 = some ⟨bodyOf Tryz.f163, 32, [.tmp 6]⟩ := by kernel_rfl
@[simp] theorem fb164 : fbody Tryz.prog 164 = some ⟨bodyOf Tryz.f164, 26, [.tmp 4]⟩ := by kernel_rfl
@[simp] theorem fb165 : fbody Tryz.prog 165 = some ⟨bodyOf Tryz.f165, 48, [.tmp 4]⟩ := by kernel_rfl
@[simp] theorem fb166 : fbody Tryz.prog 166 = some ⟨bodyOf Tryz.f166, 20, [.tmp 2]⟩ := by kernel_rfl
@[simp] theorem fb167 : fbody Tryz.prog 167 = some ⟨bodyOf Tryz.f167, 14, [.tmp 4]⟩ := by kernel_rfl
@[simp] theorem fb168 : fbody Tryz.prog 168 = some ⟨bodyOf Tryz.f168, 10, [.tmp 4]⟩ := by kernel_rfl
@[simp] theorem fb169 : fbody Tryz.prog 169 = some ⟨bodyOf Tryz.f169, 22, [.tmp 7]⟩ := by kernel_rfl
@[simp] theorem fb174 : fbody Tryz.prog 174 = some ⟨bodyOf Tryz.f174, 26, [.cell 6 48]⟩ := by kernel_rfl
@[simp] theorem fb183 : fbody Tryz.prog 183 = some ⟨bodyOf Tryz.f183, 15, [.cell 6 34]⟩ := by kernel_rfl
@[simp] theorem fb189 : fbody Tryz.prog 189 = some ⟨bodyOf Tryz.f189, 14, [.tmp 4]⟩ := by kernel_rfl
@[simp] theorem fb190 : fbody Tryz.prog 190 = some ⟨bodyOf Tryz.f190, 85, [.tmp 8]⟩ := by kernel_rfl
@[simp] theorem fb191 : fbody Tryz.prog 191 = some ⟨bodyOf Tryz.f191, 28, [.tmp 10]⟩ := by kernel_rfl
@[simp] theorem fb192 : fbody Tryz.prog 192 = some ⟨bodyOf Tryz.f192, 42, [.tmp 4]⟩ := by kernel_rfl
@[simp] theorem fb193 : fbody Tryz.prog 193 = some ⟨bodyOf Tryz.f193, 16, [.tmp 2]⟩ := by kernel_rfl
@[simp] theorem fb194 : fbody Tryz.prog 194 = some ⟨bodyOf Tryz.f194, 8, [.tmp 3]⟩ := by kernel_rfl
@[simp] theorem fb195 : fbody Tryz.prog 195 = some ⟨bodyOf Tryz.f195, 19, [.tmp 4]⟩ := by kernel_rfl
@[simp] theorem fb196 : fbody Tryz.prog 196 = some ⟨bodyOf Tryz.f196, 134, []⟩ := by kernel_rfl
@[simp] theorem fb197 : fbody Tryz.prog 197 = some ⟨bodyOf Tryz.f197, 8, [.tmp 2]⟩ := by kernel_rfl
@[simp] theorem fb198 : fbody Tryz.prog 198 = some ⟨bodyOf Tryz.f198, 51, [.tmp 4]⟩ := by kernel_rfl
@[simp] theorem fb199 : fbody Tryz.prog 199 = some ⟨bodyOf Tryz.f199, 77, [.tmp 4]⟩ := by kernel_rfl
@[simp] theorem fb200 : fbody Tryz.prog 200 = some ⟨bodyOf Tryz.f200, 13, [.tmp 4]⟩ := by kernel_rfl
@[simp] theorem fb201 : fbody Tryz.prog 201 = some ⟨bodyOf Tryz.f201, 30, [.tmp 4, .tmp 5]⟩ := by kernel_rfl
@[simp] theorem fb202 : fbody Tryz.prog 202 = some ⟨bodyOf Tryz.f202, 26, [.tmp 4]⟩ := by kernel_rfl
@[simp] theorem fb203 : fbody Tryz.prog 203 = some ⟨bodyOf Tryz.f203, 43, [.tmp 4]⟩ := by kernel_rfl
@[simp] theorem fb216 : fbody Tryz.prog 216 = some ⟨bodyOf Tryz.f216, 11, [.tmp 5]⟩ := by kernel_rfl
@[simp] theorem fb217 : fbody Tryz.prog 217 = some ⟨bodyOf Tryz.f217, 79, [.tmp 8]⟩ := by kernel_rfl
@[simp] theorem fb218 : fbody Tryz.prog 218 = some ⟨bodyOf Tryz.f218, 6, [.tmp 2]⟩ := by kernel_rfl
@[simp] theorem fb223 : fbody Tryz.prog 223 = some ⟨bodyOf Tryz.f223, 49, []⟩ := by kernel_rfl
@[simp] theorem fb224 : fbody Tryz.prog 224 = some ⟨bodyOf Tryz.f224, 56, []⟩ := by kernel_rfl
@[simp] theorem fb225 : fbody Tryz.prog 225 = some ⟨bodyOf Tryz.f225, 65, []⟩ := by kernel_rfl
@[simp] theorem fb226 : fbody Tryz.prog 226 = some ⟨bodyOf Tryz.f226, 57, [.tmp 6, .tmp 7]⟩ := by kernel_rfl
@[simp] theorem fb227 : fbody Tryz.prog 227 = some ⟨bodyOf Tryz.f227, 32, []⟩ := by kernel_rfl
@[simp] theorem fb228 : fbody Tryz.prog 228 = some ⟨bodyOf Tryz.f228, 133, [.tmp 6]⟩ := by kernel_rfl
@[simp] theorem fb229 : fbody Tryz.prog 229 = some ⟨bodyOf Tryz.f229, 17, [.tmp 4]⟩ := by kernel_rfl
@[simp] theorem fb230 : fbody Tryz.prog 230 = some ⟨bodyOf Tryz.f230, 84, [.tmp 8]⟩ := by kernel_rfl
@[simp] theorem fb231 : fbody Tryz.prog 231 = some ⟨bodyOf Tryz.f231, 168, [.tmp 8, .tmp 9]⟩ := by kernel_rfl
@[simp] theorem fb232 : fbody Tryz.prog 232 = some ⟨bodyOf Tryz.f232, 19, [.tmp 2]⟩ := by kernel_rfl
@[simp] theorem fb233 : fbody Tryz.prog 233 = some ⟨bodyOf Tryz.f233, 25, [.tmp 2]⟩ := by kernel_rfl
@[simp] theorem fb234 : fbody Tryz.prog 234 = some ⟨bodyOf Tryz.f234, 18, [.tmp 4]⟩ := by kernel_rfl
@[simp] theorem fb235 : fbody Tryz.prog 235 = some ⟨bodyOf Tryz.f235, 17, [.tmp 4, .tmp 5]⟩ := by kernel_rfl
@[simp] theorem fb236 : fbody Tryz.prog 236 = some ⟨bodyOf Tryz.f236, 51, [.tmp 4, .tmp 5]⟩ := by kernel_rfl
@[simp] theorem fb238 : fbody Tryz.prog 238 = some ⟨bodyOf Tryz.f238, 12, [.tmp 4]⟩ := by kernel_rfl
@[simp] theorem fb242 : fbody Tryz.prog 242 = some ⟨bodyOf Tryz.f242, 76, []⟩ := by kernel_rfl
@[simp] theorem fb243 : fbody Tryz.prog 243 = some ⟨bodyOf Tryz.f243, 7, [.tmp 2]⟩ := by kernel_rfl
@[simp] theorem fb244 : fbody Tryz.prog 244 = some ⟨bodyOf Tryz.f244, 33, [.tmp 2]⟩ := by kernel_rfl
@[simp] theorem fb245 : fbody Tryz.prog 245 = some ⟨bodyOf Tryz.f245, 15, [.tmp 6]⟩ := by kernel_rfl
@[simp] theorem fb246 : fbody Tryz.prog 246 = some ⟨bodyOf Tryz.f246, 36, [.tmp 10]⟩ := by kernel_rfl
@[simp] theorem fb247 : fbody Tryz.prog 247 = some ⟨bodyOf Tryz.f247, 6, [.tmp 2]⟩ := by kernel_rfl
@[simp] theorem fb249 : fbody Tryz.prog 249 = some ⟨bodyOf Tryz.f249, 28, [.tmp 8, .tmp 9]⟩ := by kernel_rfl
def annL : List (Nat × FAnn) := [
  (3, { own := [], keep := [] }),
  (4, { own := [], keep := [] }),
  (5, { own := [], keep := [] }),
  (6, { own := [], keep := [] }),
  (7, { own := [], keep := [] }),
  (11, { own := [], keep := [] }),
  (12, { own := [], keep := [] }),
  (13, { own := [], keep := [(6, [3, 9, 10, 11, 12], [48, 400, 401, 402, 403, 416, 1056]), (11, [3, 9, 10, 11, 12, 13, 14], [48, 400, 401, 402, 403, 416, 1056])] }),
  (14, { own := [], keep := [] }),
  (15, { own := [], keep := [] }),
  (16, { own := [], keep := [] }),
  (17, { own := [], keep := [(4, [0, 1, 5], [])] }),
  (18, { own := [], keep := [] }),
  (19, { own := [], keep := [] }),
  (20, { own := [], keep := [] }),
  (21, { own := [], keep := [] }),
  (22, { own := [], keep := [(2, [0, 1, 5], [100000, 100001, 100002])] }),
  (23, { own := [], keep := [(2, [0, 1, 5], [])] }),
  (24, { own := [], keep := [] }),
  (25, { own := [], keep := [] }),
  (26, { own := [], keep := [] }),
  (27, { own := [], keep := [(3, [0, 3, 4], [112])] }),
  (28, { own := [], keep := [] }),
  (29, { own := [], keep := [] }),
  (30, { own := [], keep := [(4, [0, 1, 5], [])] }),
  (31, { own := [], keep := [] }),
  (32, { own := [], keep := [(2, [0, 1, 5], [100000, 100001, 100002])] }),
  (33, { own := [], keep := [] }),
  (34, { own := [69], keep := [(14, [2, 4, 5, 6, 8, 10, 13, 14, 15, 16, 17], [80, 96, 128, 160, 208, 256, 816, 817, 818, 819, 1008, 1009, 1010, 1011, 1104, 1920]), (18, [2, 4, 5, 6, 8, 10, 13, 14, 15, 16, 17, 18, 19], [80, 96, 128, 160, 208, 256, 816, 817, 818, 819, 1008, 1009, 1010, 1011, 1104, 1312, 1313, 1314, 1315, 1920])] }),
  (35, { own := [], keep := [] }),
  (36, { own := [], keep := [(12, [2, 4, 5, 7, 8, 11, 13, 14, 15, 16], [64, 80, 112, 128, 176, 240, 496, 497, 498, 499, 768, 769, 770, 771, 864, 865, 866, 867]), (16, [2, 4, 5, 7, 8, 11, 13, 14, 15, 16, 17, 18], [64, 80, 112, 128, 176, 240, 496, 497, 498, 499, 768, 769, 770, 771, 864, 865, 866, 867])] }),
  (37, { own := [], keep := [] }),
  (38, { own := [], keep := [] }),
  (39, { own := [], keep := [] }),
  (40, { own := [], keep := [] }),
  (43, { own := [], keep := [(2, [0, 1, 5], [])] }),
  (48, { own := [], keep := [(5, [0, 1, 5], [])] }),
  (49, { own := [], keep := [] }),
  (50, { own := [], keep := [] }),
  (51, { own := [16], keep := [(3, [7, 8, 9], [240, 241, 242, 243, 256, 704]), (7, [7, 8, 9, 10, 11], [240, 241, 242, 243, 256, 704])] }),
  (52, { own := [], keep := [] }),
  (53, { own := [], keep := [] }),
  (54, { own := [5], keep := [(3, [0, 3, 4], [80, 304])] }),
  (55, { own := [], keep := [(3, [0, 3, 4], [112, 320, 321, 322, 323])] }),
  (56, { own := [], keep := [] }),
  (57, { own := [], keep := [] }),
  (58, { own := [], keep := [(5, [0, 1, 5, 6], [])] }),
  (59, { own := [22], keep := [(3, [1, 3, 4, 14, 15], [16, 144, 192, 800]), (8, [1, 3, 4, 5, 6, 14, 15, 24, 25], [16, 144, 192, 352, 688, 800])] }),
  (60, { own := [], keep := [] }),
  (61, { own := [], keep := [] }),
  (62, { own := [], keep := [(4, [2, 3, 4, 7], [48, 64])] }),
  (63, { own := [], keep := [] }),
  (64, { own := [20, 24], keep := [(3, [2, 5, 6, 8, 9, 10, 11, 12, 13, 14], [80, 96, 128, 144, 160, 176, 192, 208, 320, 384, 688, 1296]), (7, [2, 5, 8, 9, 10, 11, 12, 13, 15], [80, 128, 144, 160, 176, 192, 208, 320, 384, 688, 1296]), (11, [2, 5, 8, 9, 10, 11, 12, 13, 15, 16, 17], [80, 128, 144, 160, 176, 192, 208, 320, 384, 688, 912, 913, 914, 915, 1296])] }),
  (65, { own := [17], keep := [(3, [1, 2, 4, 5, 6], [32, 64, 80, 144, 752]), (7, [1, 2, 4, 5, 6, 7, 8], [32, 64, 80, 144, 272, 672, 752])] }),
  (66, { own := [], keep := [(4, [3, 4, 14, 15, 16], [48, 64])] }),
  (67, { own := [], keep := [] }),
  (68, { own := [], keep := [] }),
  (69, { own := [], keep := [] }),
  (70, { own := [], keep := [(5, [1, 3, 4], [16]), (10, [1, 3, 4, 5], [16]), (15, [1, 3, 6], [16]), (21, [1, 3, 6, 7, 8], [16]), (25, [1, 3, 6, 7, 8, 9], [16])] }),
  (71, { own := [], keep := [(4, [2, 3, 5], [32, 48]), (9, [2, 3, 6], [32, 48]), (12, [2, 3, 6, 7], [32, 48])] }),
  (72, { own := [], keep := [(5, [1, 6], [])] }),
  (73, { own := [], keep := [(4, [1, 2, 5], [32])] }),
  (74, { own := [], keep := [(4, [4, 5, 7], [64, 80])] }),
  (75, { own := [9], keep := [(3, [1, 2, 4, 5, 6], [32, 64, 80, 144, 448])] }),
  (76, { own := [], keep := [(3, [1, 2, 3, 7, 8], [48])] }),
  (77, { own := [], keep := [(2, [1, 2, 5], [32])] }),
  (78, { own := [], keep := [(3, [2, 7, 8, 9], [176])] }),
  (79, { own := [], keep := [(2, [0, 1, 5], [])] }),
  (80, { own := [], keep := [] }),
  (81, { own := [], keep := [(3, [2, 3, 4, 7, 8], [48, 64])] }),
  (82, { own := [], keep := [] }),
  (83, { own := [], keep := [] }),
  (84, { own := [], keep := [] }),
  (85, { own := [], keep := [] }),
  (86, { own := [], keep := [(3, [1, 2, 3, 4, 8, 9, 16, 17], [64, 128, 144, 208, 209, 210, 211])] }),
  (87, { own := [], keep := [] }),
  (88, { own := [], keep := [] }),
  (89, { own := [8], keep := [(3, [1, 5, 9, 10, 11], [128, 320])] }),
  (90, { own := [], keep := [] }),
  (91, { own := [], keep := [(2, [0, 1, 7, 8], [])] }),
  (92, { own := [], keep := [] }),
  (93, { own := [], keep := [] }),
  (94, { own := [15], keep := [(4, [1, 2, 6, 7, 8, 9], [32, 224, 240, 928]), (8, [1, 2, 6, 7, 8, 9, 10], [32, 224, 240, 928])] }),
  (95, { own := [], keep := [] }),
  (96, { own := [], keep := [] }),
  (97, { own := [11], keep := [(3, [1, 2, 6, 7, 18, 19], [32, 176, 256, 257, 258, 259, 736]), (7, [1, 2, 6, 7, 8, 18, 19, 27, 28, 29], [32, 176, 256, 257, 258, 259, 736])] }),
  (98, { own := [], keep := [(3, [0, 1, 2, 3, 4, 5, 6, 7, 10, 16, 17, 18], [])] }),
  (99, { own := [], keep := [(3, [2, 5, 8, 9, 10], [32])] }),
  (100, { own := [], keep := [(3, [1, 2, 5, 6], [32]), (6, [1, 2, 5, 6, 7], [32])] }),
  (101, { own := [26], keep := [(4, [2, 4, 6, 7, 8, 9], [32, 64, 128, 240, 241, 242, 243, 288, 912]), (8, [2, 4, 6, 7, 8, 9, 10, 11], [32, 64, 128, 240, 241, 242, 243, 288, 416, 832, 912])] }),
  (102, { own := [], keep := [] }),
  (103, { own := [], keep := [(2, [1, 2, 8, 9, 10], [32]), (5, [1, 2, 6, 8, 9, 10, 15, 16], [32])] }),
  (104, { own := [], keep := [] }),
  (106, { own := [], keep := [] }),
  (125, { own := [], keep := [(5, [1, 3, 18, 19, 20], [16]), (11, [1, 3, 35, 36], [16]), (16, [1, 3, 6, 35, 36, 68, 69], [16]), (19, [1, 3, 6, 7, 35, 36, 68, 69, 72, 73], [16])] }),
  (129, { own := [], keep := [] }),
  (131, { own := [], keep := [] }),
  (135, { own := [8], keep := [(3, [2, 4, 5, 6], [32, 64, 80, 128, 320])] }),
  (136, { own := [], keep := [(2, [3, 4, 5, 7], [48, 64, 80])] }),
  (137, { own := [18], keep := [(3, [1, 3, 5, 7, 8], [48, 80, 176, 1056]), (7, [1, 3, 5, 7, 8, 9, 10], [48, 80, 176, 288, 704, 992, 1056])] }),
  (138, { own := [], keep := [] }),
  (139, { own := [], keep := [(2, [13, 14, 15], [192, 193, 194, 195])] }),
  (140, { own := [18], keep := [(3, [1, 3, 5, 7, 14, 15], [48, 80, 192, 784]), (7, [1, 3, 5, 7, 8, 9, 14, 15, 20, 21], [48, 80, 192, 288, 704, 784])] }),
  (141, { own := [], keep := [] }),
  (142, { own := [], keep := [] }),
  (143, { own := [], keep := [] }),
  (144, { own := [], keep := [] }),
  (145, { own := [], keep := [(2, [0, 1, 7, 8], [])] }),
  (146, { own := [], keep := [] }),
  (147, { own := [], keep := [] }),
  (148, { own := [], keep := [(2, [1, 2, 5], [32])] }),
  (149, { own := [], keep := [(2, [2, 7, 8, 9], [32])] }),
  (150, { own := [], keep := [] }),
  (151, { own := [], keep := [(2, [1, 2, 7, 8, 9], [32])] }),
  (152, { own := [], keep := [(2, [0, 7, 8, 9], [])] }),
  (153, { own := [], keep := [] }),
  (154, { own := [], keep := [] }),
  (155, { own := [], keep := [] }),
  (156, { own := [14], keep := [(3, [0, 1, 4, 5, 10, 11], [64, 80, 496]), (7, [0, 1, 4, 5, 6, 7, 10, 11, 15, 16], [64, 80, 224, 400, 496])] }),
  (157, { own := [], keep := [] }),
  (158, { own := [], keep := [(1, [0, 1], [])] }),
  (159, { own := [], keep := [] }),
  (160, { own := [], keep := [] }),
  (161, { own := [], keep := [] }),
  (162, { own := [], keep := [] }),
  (163, { own := [], keep := [(3, [2, 7, 8, 9], [176])] }),
  (164, { own := [], keep := [(3, [2, 5, 8, 9, 10], [32])] }),
  (165, { own := [], keep := [(8, [7, 8], [480])] }),
  (166, { own := [], keep := [(3, [0, 3, 4], [])] }),
  (167, { own := [], keep := [] }),
  (168, { own := [], keep := [] }),
  (169, { own := [], keep := [] }),
  (174, { own := [], keep := [(3, [2, 6, 7, 12, 13], [96, 112, 352])] }),
  (183, { own := [], keep := [] }),
  (189, { own := [], keep := [(3, [0, 5, 6, 7], [])] }),
  (190, { own := [], keep := [(4, [3, 4, 5, 6, 9, 10, 11, 12], [64, 80, 96])] }),
  (191, { own := [], keep := [] }),
  (192, { own := [], keep := [(5, [0, 1, 5, 6], [100000, 100001, 100002])] }),
  (193, { own := [5], keep := [(3, [3, 6, 7], [80, 208])] }),
  (194, { own := [], keep := [] }),
  (195, { own := [], keep := [(2, [0, 1, 7, 8], [])] }),
  (196, { own := [], keep := [(2, [0, 1, 2, 3, 8, 9], [100000, 100001, 100002])] }),
  (197, { own := [], keep := [] }),
  (198, { own := [], keep := [(3, [1, 2, 5], [32]), (7, [1, 2, 5, 6, 7], [32, 224, 225, 226, 227]), (10, [1, 2, 5, 6, 7, 8], [32, 224, 225, 226, 227])] }),
  (199, { own := [], keep := [(4, [2, 3, 29, 30, 31], [32, 48]), (10, [2, 3, 42, 43], [32, 48]), (13, [2, 3, 7, 42, 43, 47, 48], [32, 48])] }),
  (200, { own := [], keep := [] }),
  (201, { own := [], keep := [] }),
  (202, { own := [], keep := [(4, [0, 1, 12, 13], [])] }),
  (203, { own := [10], keep := [(3, [1, 2, 5, 6], [32, 160, 608]), (6, [1, 2, 5, 6, 17, 18, 19], [32, 160, 608])] }),
  (216, { own := [], keep := [] }),
  (217, { own := [34], keep := [(5, [3, 4, 6, 9, 10, 11, 30, 31], [64, 96])] }),
  (218, { own := [3], keep := [] }),
  (223, { own := [], keep := [(1, [0, 1, 2, 6], [100000, 100001, 100002]), (4, [0, 1, 2, 6, 7], [100000, 100001, 100002])] }),
  (224, { own := [], keep := [(4, [0, 6, 7, 8, 9], []), (8, [0, 6, 7, 10], [])] }),
  (225, { own := [], keep := [(5, [0, 1, 6, 7, 8, 9], [112])] }),
  (226, { own := [], keep := [] }),
  (227, { own := [], keep := [(2, [0, 6, 7], [])] }),
  (228, { own := [], keep := [(3, [0, 1, 2, 7, 8], []), (5, [0, 1, 2, 7, 8], []), (14, [0, 1, 2, 7, 8, 9], []), (20, [0, 1, 2, 7, 8, 10], [])] }),
  (229, { own := [], keep := [] }),
  (230, { own := [], keep := [(3, [0, 1, 9, 10], []), (5, [0, 1, 9, 10], [])] }),
  (231, { own := [], keep := [(3, [0, 1, 10, 11], []), (5, [0, 1, 10, 11], []), (13, [0, 1, 10, 11], []), (15, [0, 1, 10, 11], [])] }),
  (232, { own := [], keep := [] }),
  (233, { own := [], keep := [] }),
  (234, { own := [], keep := [] }),
  (235, { own := [], keep := [] }),
  (236, { own := [], keep := [] }),
  (238, { own := [], keep := [(1, [0, 1], [])] }),
  (242, { own := [], keep := [(1, [0, 2, 3, 8], [])] }),
  (243, { own := [], keep := [] }),
  (244, { own := [], keep := [] }),
  (245, { own := [], keep := [] }),
  (246, { own := [], keep := [] }),
  (247, { own := [], keep := [] }),
  (249, { own := [], keep := [] })]
def An : Ann := { lend := [20, 21, 22, 31, 32, 146, 192, 196, 223], fn := fun k => (lookL annL k).getD {} }
@[simp] theorem an_lend : An.lend = [20, 21, 22, 31, 32, 146, 192, 196, 223] := rfl
@[simp] theorem an3 : An.fn 3 = { own := [], keep := [] } := rfl
@[simp] theorem an4 : An.fn 4 = { own := [], keep := [] } := rfl
@[simp] theorem an5 : An.fn 5 = { own := [], keep := [] } := rfl
@[simp] theorem an6 : An.fn 6 = { own := [], keep := [] } := rfl
@[simp] theorem an7 : An.fn 7 = { own := [], keep := [] } := rfl
@[simp] theorem an11 : An.fn 11 = { own := [], keep := [] } := rfl
@[simp] theorem an12 : An.fn 12 = { own := [], keep := [] } := rfl
@[simp] theorem an13 : An.fn 13 = { own := [], keep := [(6, [3, 9, 10, 11, 12], [48, 400, 401, 402, 403, 416, 1056]), (11, [3, 9, 10, 11, 12, 13, 14], [48, 400, 401, 402, 403, 416, 1056])] } := rfl
@[simp] theorem an14 : An.fn 14 = { own := [], keep := [] } := rfl
@[simp] theorem an15 : An.fn 15 = { own := [], keep := [] } := rfl
@[simp] theorem an16 : An.fn 16 = { own := [], keep := [] } := rfl
@[simp] theorem an17 : An.fn 17 = { own := [], keep := [(4, [0, 1, 5], [])] } := rfl
@[simp] theorem an18 : An.fn 18 = { own := [], keep := [] } := rfl
@[simp] theorem an19 : An.fn 19 = { own := [], keep := [] } := rfl
@[simp] theorem an20 : An.fn 20 = { own := [], keep := [] } := rfl
@[simp] theorem an21 : An.fn 21 = { own := [], keep := [] } := rfl
@[simp] theorem an22 : An.fn 22 = { own := [], keep := [(2, [0, 1, 5], [100000, 100001, 100002])] } := rfl
@[simp] theorem an23 : An.fn 23 = { own := [], keep := [(2, [0, 1, 5], [])] } := rfl
@[simp] theorem an24 : An.fn 24 = { own := [], keep := [] } := rfl
@[simp] theorem an25 : An.fn 25 = { own := [], keep := [] } := rfl
@[simp] theorem an26 : An.fn 26 = { own := [], keep := [] } := rfl
@[simp] theorem an27 : An.fn 27 = { own := [], keep := [(3, [0, 3, 4], [112])] } := rfl
@[simp] theorem an28 : An.fn 28 = { own := [], keep := [] } := rfl
@[simp] theorem an29 : An.fn 29 = { own := [], keep := [] } := rfl
@[simp] theorem an30 : An.fn 30 = { own := [], keep := [(4, [0, 1, 5], [])] } := rfl
@[simp] theorem an31 : An.fn 31 = { own := [], keep := [] } := rfl
@[simp] theorem an32 : An.fn 32 = { own := [], keep := [(2, [0, 1, 5], [100000, 100001, 100002])] } := rfl
@[simp] theorem an33 : An.fn 33 = { own := [], keep := [] } := rfl
@[simp] theorem an34 : An.fn 34 = { own := [69], keep := [(14, [2, 4, 5, 6, 8, 10, 13, 14, 15, 16, 17], [80, 96, 128, 160, 208, 256, 816, 817, 818, 819, 1008, 1009, 1010, 1011, 1104, 1920]), (18, [2, 4, 5, 6, 8, 10, 13, 14, 15, 16, 17, 18, 19], [80, 96, 128, 160, 208, 256, 816, 817, 818, 819, 1008, 1009, 1010, 1011, 1104, 1312, 1313, 1314, 1315, 1920])] } := rfl
@[simp] theorem an35 : An.fn 35 = { own := [], keep := [] } := rfl
@[simp] theorem an36 : An.fn 36 = { own := [], keep := [(12, [2, 4, 5, 7, 8, 11, 13, 14, 15, 16], [64, 80, 112, 128, 176, 240, 496, 497, 498, 499, 768, 769, 770, 771, 864, 865, 866, 867]), (16, [2, 4, 5, 7, 8, 11, 13, 14, 15, 16, 17, 18], [64, 80, 112, 128, 176, 240, 496, 497, 498, 499, 768, 769, 770, 771, 864, 865, 866, 867])] } := rfl
@[simp] theorem an37 : An.fn 37 = { own := [], keep := [] } := rfl
@[simp] theorem an38 : An.fn 38 = { own := [], keep := [] } := rfl
@[simp] theorem an39 : An.fn 39 = { own := [], keep := [] } := rfl
@[simp] theorem an40 : An.fn 40 = { own := [], keep := [] } := rfl
@[simp] theorem an43 : An.fn 43 = { own := [], keep := [(2, [0, 1, 5], [])] } := rfl
@[simp] theorem an48 : An.fn 48 = { own := [], keep := [(5, [0, 1, 5], [])] } := rfl
@[simp] theorem an49 : An.fn 49 = { own := [], keep := [] } := rfl
@[simp] theorem an50 : An.fn 50 = { own := [], keep := [] } := rfl
@[simp] theorem an51 : An.fn 51 = { own := [16], keep := [(3, [7, 8, 9], [240, 241, 242, 243, 256, 704]), (7, [7, 8, 9, 10, 11], [240, 241, 242, 243, 256, 704])] } := rfl
@[simp] theorem an52 : An.fn 52 = { own := [], keep := [] } := rfl
@[simp] theorem an53 : An.fn 53 = { own := [], keep := [] } := rfl
@[simp] theorem an54 : An.fn 54 = { own := [5], keep := [(3, [0, 3, 4], [80, 304])] } := rfl
@[simp] theorem an55 : An.fn 55 = { own := [], keep := [(3, [0, 3, 4], [112, 320, 321, 322, 323])] } := rfl
@[simp] theorem an56 : An.fn 56 = { own := [], keep := [] } := rfl
@[simp] theorem an57 : An.fn 57 = { own := [], keep := [] } := rfl
@[simp] theorem an58 : An.fn 58 = { own := [], keep := [(5, [0, 1, 5, 6], [])] } := rfl
@[simp] theorem an59 : An.fn 59 = { own := [22], keep := [(3, [1, 3, 4, 14, 15], [16, 144, 192, 800]), (8, [1, 3, 4, 5, 6, 14, 15, 24, 25], [16, 144, 192, 352, 688, 800])] } := rfl
@[simp] theorem an60 : An.fn 60 = { own := [], keep := [] } := rfl
@[simp] theorem an61 : An.fn 61 = { own := [], keep := [] } := rfl
@[simp] theorem an62 : An.fn 62 = { own := [], keep := [(4, [2, 3, 4, 7], [48, 64])] } := rfl
@[simp] theorem an63 : An.fn 63 = { own := [], keep := [] } := rfl
@[simp] theorem an64 : An.fn 64 = { own := [20, 24], keep := [(3, [2, 5, 6, 8, 9, 10, 11, 12, 13, 14], [80, 96, 128, 144, 160, 176, 192, 208, 320, 384, 688, 1296]), (7, [2, 5, 8, 9, 10, 11, 12, 13, 15], [80, 128, 144, 160, 176, 192, 208, 320, 384, 688, 1296]), (11, [2, 5, 8, 9, 10, 11, 12, 13, 15, 16, 17], [80, 128, 144, 160, 176, 192, 208, 320, 384, 688, 912, 913, 914, 915, 1296])] } := rfl
@[simp] theorem an65 : An.fn 65 = { own := [17], keep := [(3, [1, 2, 4, 5, 6], [32, 64, 80, 144, 752]), (7, [1, 2, 4, 5, 6, 7, 8], [32, 64, 80, 144, 272, 672, 752])] } := rfl
@[simp] theorem an66 : An.fn 66 = { own := [], keep := [(4, [3, 4, 14, 15, 16], [48, 64])] } := rfl
@[simp] theorem an67 : An.fn 67 = { own := [], keep := [] } := rfl
@[simp] theorem an68 : An.fn 68 = { own := [], keep := [] } := rfl
@[simp] theorem an69 : An.fn 69 = { own := [], keep := [] } := rfl
@[simp] theorem an70 : An.fn 70 = { own := [], keep := [(5, [1, 3, 4], [16]), (10, [1, 3, 4, 5], [16]), (15, [1, 3, 6], [16]), (21, [1, 3, 6, 7, 8], [16]), (25, [1, 3, 6, 7, 8, 9], [16])] } := rfl
@[simp] theorem an71 : An.fn 71 = { own := [], keep := [(4, [2, 3, 5], [32, 48]), (9, [2, 3, 6], [32, 48]), (12, [2, 3, 6, 7], [32, 48])] } := rfl
@[simp] theorem an72 : An.fn 72 = { own := [], keep := [(5, [1, 6], [])] } := rfl
@[simp] theorem an73 : An.fn 73 = { own := [], keep := [(4, [1, 2, 5], [32])] } := rfl
@[simp] theorem an74 : An.fn 74 = { own := [], keep := [(4, [4, 5, 7], [64, 80])] } := rfl
@[simp] theorem an75 : An.fn 75 = { own := [9], keep := [(3, [1, 2, 4, 5, 6], [32, 64, 80, 144, 448])] } := rfl
@[simp] theorem an76 : An.fn 76 = { own := [], keep := [(3, [1, 2, 3, 7, 8], [48])] } := rfl
@[simp] theorem an77 : An.fn 77 = { own := [], keep := [(2, [1, 2, 5], [32])] } := rfl
@[simp] theorem an78 : An.fn 78 = { own := [], keep := [(3, [2, 7, 8, 9], [176])] } := rfl
@[simp] theorem an79 : An.fn 79 = { own := [], keep := [(2, [0, 1, 5], [])] } := rfl
@[simp] theorem an80 : An.fn 80 = { own := [], keep := [] } := rfl
@[simp] theorem an81 : An.fn 81 = { own := [], keep := [(3, [2, 3, 4, 7, 8], [48, 64])] } := rfl
@[simp] theorem an82 : An.fn 82 = { own := [], keep := [] } := rfl
@[simp] theorem an83 : An.fn 83 = { own := [], keep := [] } := rfl
@[simp] theorem an84 : An.fn 84 = { own := [], keep := [] } := rfl
@[simp] theorem an85 : An.fn 85 = { own := [], keep := [] } := rfl
@[simp] theorem an86 : An.fn 86 = { own := [], keep := [(3, [1, 2, 3, 4, 8, 9, 16, 17], [64, 128, 144, 208, 209, 210, 211])] } := rfl
@[simp] theorem an87 : An.fn 87 = { own := [], keep := [] } := rfl
@[simp] theorem an88 : An.fn 88 = { own := [], keep := [] } := rfl
@[simp] theorem an89 : An.fn 89 = { own := [8], keep := [(3, [1, 5, 9, 10, 11], [128, 320])] } := rfl
@[simp] theorem an90 : An.fn 90 = { own := [], keep := [] } := rfl
@[simp] theorem an91 : An.fn 91 = { own := [], keep := [(2, [0, 1, 7, 8], [])] } := rfl
@[simp] theorem an92 : An.fn 92 = { own := [], keep := [] } := rfl
@[simp] theorem an93 : An.fn 93 = { own := [], keep := [] } := rfl
@[simp] theorem an94 : An.fn 94 = { own := [15], keep := [(4, [1, 2, 6, 7, 8, 9], [32, 224, 240, 928]), (8, [1, 2, 6, 7, 8, 9, 10], [32, 224, 240, 928])] } := rfl
@[simp] theorem an95 : An.fn 95 = { own := [], keep := [] } := rfl
@[simp] theorem an96 : An.fn 96 = { own := [], keep := [] } := rfl
@[simp] theorem an97 : An.fn 97 = { own := [11], keep := [(3, [1, 2, 6, 7, 18, 19], [32, 176, 256, 257, 258, 259, 736]), (7, [1, 2, 6, 7, 8, 18, 19, 27, 28, 29], [32, 176, 256, 257, 258, 259, 736])] } := rfl
@[simp] theorem an98 : An.fn 98 = { own := [], keep := [(3, [0, 1, 2, 3, 4, 5, 6, 7, 10, 16, 17, 18], [])] } := rfl
@[simp] theorem an99 : An.fn 99 = { own := [], keep := [(3, [2, 5, 8, 9, 10], [32])] } := rfl
@[simp] theorem an100 : An.fn 100 = { own := [], keep := [(3, [1, 2, 5, 6], [32]), (6, [1, 2, 5, 6, 7], [32])] } := rfl
@[simp] theorem an101 : An.fn 101 = { own := [26], keep := [(4, [2, 4, 6, 7, 8, 9], [32, 64, 128, 240, 241, 242, 243, 288, 912]), (8, [2, 4, 6, 7, 8, 9, 10, 11], [32, 64, 128, 240, 241, 242, 243, 288, 416, 832, 912])] } := rfl
@[simp] theorem an102 : An.fn 102 = { own := [], keep := [] } := rfl
@[simp] theorem an103 : An.fn 103 = { own := [], keep := [(2, [1, 2, 8, 9, 10], [32]), (5, [1, 2, 6, 8, 9, 10, 15, 16], [32])] } := rfl
@[simp] theorem an104 : An.fn 104 = { own := [], keep := [] } := rfl
@[simp] theorem an106 : An.fn 106 = { own := [], keep := [] } := rfl
@[simp] theorem an125 : An.fn 125 = { own := [], keep := [(5, [1, 3, 18, 19, 20], [16]), (11, [1, 3, 35, 36], [16]), (16, [1, 3, 6, 35, 36, 68, 69], [16]), (19, [1, 3, 6, 7, 35, 36, 68, 69, 72, 73], [16])] } := rfl
@[simp] theorem an129 : An.fn 129 = { own := [], keep := [] } := rfl
@[simp] theorem an131 : An.fn 131 = { own := [], keep := [] } := rfl
@[simp] theorem an135 : An.fn 135 = { own := [8], keep := [(3, [2, 4, 5, 6], [32, 64, 80, 128, 320])] } := rfl
@[simp] theorem an136 : An.fn 136 = { own := [], keep := [(2, [3, 4, 5, 7], [48, 64, 80])] } := rfl
@[simp] theorem an137 : An.fn 137 = { own := [18], keep := [(3, [1, 3, 5, 7, 8], [48, 80, 176, 1056]), (7, [1, 3, 5, 7, 8, 9, 10], [48, 80, 176, 288, 704, 992, 1056])] } := rfl
@[simp] theorem an138 : An.fn 138 = { own := [], keep := [] } := rfl
@[simp] theorem an139 : An.fn 139 = { own := [], keep := [(2, [13, 14, 15], [192, 193, 194, 195])] } := rfl
@[simp] theorem an140 : An.fn 140 = { own := [18], keep := [(3, [1, 3, 5, 7, 14, 15], [48, 80, 192, 784]), (7, [1, 3, 5, 7, 8, 9, 14, 15, 20, 21], [48, 80, 192, 288, 704, 784])] } := rfl
@[simp] theorem an141 : An.fn 141 = { own := [], keep := [] } := rfl
@[simp] theorem an142 : An.fn 142 = { own := [], keep := [] } := rfl
@[simp] theorem an143 : An.fn 143 = { own := [], keep := [] } := rfl
@[simp] theorem an144 : An.fn 144 = { own := [], keep := [] } := rfl
@[simp] theorem an145 : An.fn 145 = { own := [], keep := [(2, [0, 1, 7, 8], [])] } := rfl
@[simp] theorem an146 : An.fn 146 = { own := [], keep := [] } := rfl
@[simp] theorem an147 : An.fn 147 = { own := [], keep := [] } := rfl
@[simp] theorem an148 : An.fn 148 = { own := [], keep := [(2, [1, 2, 5], [32])] } := rfl
@[simp] theorem an149 : An.fn 149 = { own := [], keep := [(2, [2, 7, 8, 9], [32])] } := rfl
@[simp] theorem an150 : An.fn 150 = { own := [], keep := [] } := rfl
@[simp] theorem an151 : An.fn 151 = { own := [], keep := [(2, [1, 2, 7, 8, 9], [32])] } := rfl
@[simp] theorem an152 : An.fn 152 = { own := [], keep := [(2, [0, 7, 8, 9], [])] } := rfl
@[simp] theorem an153 : An.fn 153 = { own := [], keep := [] } := rfl
@[simp] theorem an154 : An.fn 154 = { own := [], keep := [] } := rfl
@[simp] theorem an155 : An.fn 155 = { own := [], keep := [] } := rfl
@[simp] theorem an156 : An.fn 156 = { own := [14], keep := [(3, [0, 1, 4, 5, 10, 11], [64, 80, 496]), (7, [0, 1, 4, 5, 6, 7, 10, 11, 15, 16], [64, 80, 224, 400, 496])] } := rfl
@[simp] theorem an157 : An.fn 157 = { own := [], keep := [] } := rfl
@[simp] theorem an158 : An.fn 158 = { own := [], keep := [(1, [0, 1], [])] } := rfl
@[simp] theorem an159 : An.fn 159 = { own := [], keep := [] } := rfl
@[simp] theorem an160 : An.fn 160 = { own := [], keep := [] } := rfl
@[simp] theorem an161 : An.fn 161 = { own := [], keep := [] } := rfl
@[simp] theorem an162 : An.fn 162 = { own := [], keep := [] } := rfl
@[simp] theorem an163 : An.fn 163 = { own := [], keep := [(3, [2, 7, 8, 9], [176])] } := rfl
@[simp] theorem an164 : An.fn 164 = { own := [], keep := [(3, [2, 5, 8, 9, 10], [32])] } := rfl
@[simp] theorem an165 : An.fn 165 = { own := [], keep := [(8, [7, 8], [480])] } := rfl
@[simp] theorem an166 : An.fn 166 = { own := [], keep := [(3, [0, 3, 4], [])] } := rfl
@[simp] theorem an167 : An.fn 167 = { own := [], keep := [] } := rfl
@[simp] theorem an168 : An.fn 168 = { own := [], keep := [] } := rfl
@[simp] theorem an169 : An.fn 169 = { own := [], keep := [] } := rfl
@[simp] theorem an174 : An.fn 174 = { own := [], keep := [(3, [2, 6, 7, 12, 13], [96, 112, 352])] } := rfl
@[simp] theorem an183 : An.fn 183 = { own := [], keep := [] } := rfl
@[simp] theorem an189 : An.fn 189 = { own := [], keep := [(3, [0, 5, 6, 7], [])] } := rfl
@[simp] theorem an190 : An.fn 190 = { own := [], keep := [(4, [3, 4, 5, 6, 9, 10, 11, 12], [64, 80, 96])] } := rfl
@[simp] theorem an191 : An.fn 191 = { own := [], keep := [] } := rfl
@[simp] theorem an192 : An.fn 192 = { own := [], keep := [(5, [0, 1, 5, 6], [100000, 100001, 100002])] } := rfl
@[simp] theorem an193 : An.fn 193 = { own := [5], keep := [(3, [3, 6, 7], [80, 208])] } := rfl
@[simp] theorem an194 : An.fn 194 = { own := [], keep := [] } := rfl
@[simp] theorem an195 : An.fn 195 = { own := [], keep := [(2, [0, 1, 7, 8], [])] } := rfl
@[simp] theorem an196 : An.fn 196 = { own := [], keep := [(2, [0, 1, 2, 3, 8, 9], [100000, 100001, 100002])] } := rfl
@[simp] theorem an197 : An.fn 197 = { own := [], keep := [] } := rfl
@[simp] theorem an198 : An.fn 198 = { own := [], keep := [(3, [1, 2, 5], [32]), (7, [1, 2, 5, 6, 7], [32, 224, 225, 226, 227]), (10, [1, 2, 5, 6, 7, 8], [32, 224, 225, 226, 227])] } := rfl
@[simp] theorem an199 : An.fn 199 = { own := [], keep := [(4, [2, 3, 29, 30, 31], [32, 48]), (10, [2, 3, 42, 43], [32, 48]), (13, [2, 3, 7, 42, 43, 47, 48], [32, 48])] } := rfl
@[simp] theorem an200 : An.fn 200 = { own := [], keep := [] } := rfl
@[simp] theorem an201 : An.fn 201 = { own := [], keep := [] } := rfl
@[simp] theorem an202 : An.fn 202 = { own := [], keep := [(4, [0, 1, 12, 13], [])] } := rfl
@[simp] theorem an203 : An.fn 203 = { own := [10], keep := [(3, [1, 2, 5, 6], [32, 160, 608]), (6, [1, 2, 5, 6, 17, 18, 19], [32, 160, 608])] } := rfl
@[simp] theorem an216 : An.fn 216 = { own := [], keep := [] } := rfl
@[simp] theorem an217 : An.fn 217 = { own := [34], keep := [(5, [3, 4, 6, 9, 10, 11, 30, 31], [64, 96])] } := rfl
@[simp] theorem an218 : An.fn 218 = { own := [3], keep := [] } := rfl
@[simp] theorem an223 : An.fn 223 = { own := [], keep := [(1, [0, 1, 2, 6], [100000, 100001, 100002]), (4, [0, 1, 2, 6, 7], [100000, 100001, 100002])] } := rfl
@[simp] theorem an224 : An.fn 224 = { own := [], keep := [(4, [0, 6, 7, 8, 9], []), (8, [0, 6, 7, 10], [])] } := rfl
@[simp] theorem an225 : An.fn 225 = { own := [], keep := [(5, [0, 1, 6, 7, 8, 9], [112])] } := rfl
@[simp] theorem an226 : An.fn 226 = { own := [], keep := [] } := rfl
@[simp] theorem an227 : An.fn 227 = { own := [], keep := [(2, [0, 6, 7], [])] } := rfl
@[simp] theorem an228 : An.fn 228 = { own := [], keep := [(3, [0, 1, 2, 7, 8], []), (5, [0, 1, 2, 7, 8], []), (14, [0, 1, 2, 7, 8, 9], []), (20, [0, 1, 2, 7, 8, 10], [])] } := rfl
@[simp] theorem an229 : An.fn 229 = { own := [], keep := [] } := rfl
@[simp] theorem an230 : An.fn 230 = { own := [], keep := [(3, [0, 1, 9, 10], []), (5, [0, 1, 9, 10], [])] } := rfl
@[simp] theorem an231 : An.fn 231 = { own := [], keep := [(3, [0, 1, 10, 11], []), (5, [0, 1, 10, 11], []), (13, [0, 1, 10, 11], []), (15, [0, 1, 10, 11], [])] } := rfl
@[simp] theorem an232 : An.fn 232 = { own := [], keep := [] } := rfl
@[simp] theorem an233 : An.fn 233 = { own := [], keep := [] } := rfl
@[simp] theorem an234 : An.fn 234 = { own := [], keep := [] } := rfl
@[simp] theorem an235 : An.fn 235 = { own := [], keep := [] } := rfl
@[simp] theorem an236 : An.fn 236 = { own := [], keep := [] } := rfl
@[simp] theorem an238 : An.fn 238 = { own := [], keep := [(1, [0, 1], [])] } := rfl
@[simp] theorem an242 : An.fn 242 = { own := [], keep := [(1, [0, 2, 3, 8], [])] } := rfl
@[simp] theorem an243 : An.fn 243 = { own := [], keep := [] } := rfl
@[simp] theorem an244 : An.fn 244 = { own := [], keep := [] } := rfl
@[simp] theorem an245 : An.fn 245 = { own := [], keep := [] } := rfl
@[simp] theorem an246 : An.fn 246 = { own := [], keep := [] } := rfl
@[simp] theorem an247 : An.fn 247 = { own := [], keep := [] } := rfl
@[simp] theorem an249 : An.fn 249 = { own := [], keep := [] } := rfl
noncomputable def cxAt (k m : Nat) : Cx := { P := Tryz.prog, call := evalCall Tryz.prog An m, lend := An.lend, rounds := m, ann := An.fn k }
@[simp] theorem cxAt_P (k m : Nat) : (cxAt k m).P = Tryz.prog := rfl
@[simp] theorem cxAt_call (k m : Nat) : (cxAt k m).call = evalCall Tryz.prog An m := rfl
@[simp] theorem cxAt_lend (k m : Nat) : (cxAt k m).lend = An.lend := rfl
@[simp] theorem cxAt_rounds (k m : Nat) : (cxAt k m).rounds = m := rfl
@[simp] theorem cxAt_ann (k m : Nat) : (cxAt k m).ann = An.fn k := rfl
theorem evalCall_at (k m : Nat) (args : List AV) (lent : List Ob) : evalCall Tryz.prog An (m + 1) k args lent = bnd (fbody Tryz.prog k) fun fb => bnd (evalCode (cxAt k m) fb.body { env := argEnv 0 args, obs := lentObs 0 lent, g := 1 }) fun r => callRes Tryz.prog lent r fb.results := rfl
end Go.Proofs.YtgklblkigjbggaaGreatE
