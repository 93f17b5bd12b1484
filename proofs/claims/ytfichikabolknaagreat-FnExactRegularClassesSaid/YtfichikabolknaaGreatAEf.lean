/- Facts of this program's types and functions, as the evaluator asks for them; written by a program of this session. -/
import Derived.Test.YtfichikabolknaaGreatAEd
import Derived.Test.YtfichikabolknaaGreatProg
import Derived.KernelRfl
namespace Go.Proofs.YtfichikabolknaaGreatE
open Go Go.Proofs
set_option maxRecDepth 100000
@[simp] theorem tk2 : tk Tryz.prog 2 = TK.int IntKind.i64 := by kernel_rfl
@[simp] theorem sz2 : sz Tryz.prog 2 = 1 := by kernel_rfl
@[simp] theorem byts2 : byts Tryz.prog 2 = 8 := by kernel_rfl
@[simp] theorem zer2 : zer Tryz.prog 2 = some ((AV.d (D.int IntKind.i64 (0)))) := by kernel_rfl
@[simp] theorem tk3 : tk Tryz.prog 3 = TK.int IntKind.i64 := by kernel_rfl
@[simp] theorem sz3 : sz Tryz.prog 3 = 1 := by kernel_rfl
@[simp] theorem byts3 : byts Tryz.prog 3 = 8 := by kernel_rfl
@[simp] theorem zer3 : zer Tryz.prog 3 = some ((AV.d (D.int IntKind.i64 (0)))) := by kernel_rfl
@[simp] theorem tk4 : tk Tryz.prog 4 = TK.bool := by kernel_rfl
@[simp] theorem sz4 : sz Tryz.prog 4 = 1 := by kernel_rfl
@[simp] theorem byts4 : byts Tryz.prog 4 = 1 := by kernel_rfl
@[simp] theorem zer4 : zer Tryz.prog 4 = some ((AV.d (D.bool false))) := by kernel_rfl
@[simp] theorem tk5 : tk Tryz.prog 5 = TK.int IntKind.u8 := by kernel_rfl
@[simp] theorem sz5 : sz Tryz.prog 5 = 1 := by kernel_rfl
@[simp] theorem byts5 : byts Tryz.prog 5 = 1 := by kernel_rfl
@[simp] theorem zer5 : zer Tryz.prog 5 = some ((AV.d (D.int IntKind.u8 (0)))) := by kernel_rfl
@[simp] theorem tk9 : tk Tryz.prog 9 = TK.string := by kernel_rfl
@[simp] theorem sz9 : sz Tryz.prog 9 = 1 := by kernel_rfl
@[simp] theorem byts9 : byts Tryz.prog 9 = 16 := by kernel_rfl
@[simp] theorem zer9 : zer Tryz.prog 9 = some ((AV.d (D.str ByteArray.empty))) := by kernel_rfl
@[simp] theorem tk22 : tk Tryz.prog 22 = TK.slice 25 := by kernel_rfl
@[simp] theorem sz22 : sz Tryz.prog 22 = 1 := by kernel_rfl
@[simp] theorem byts22 : byts Tryz.prog 22 = 24 := by kernel_rfl
@[simp] theorem zer22 : zer Tryz.prog 22 = some ((AV.d D.nil)) := by kernel_rfl
@[simp] theorem tk24 : tk Tryz.prog 24 = TK.struct [(0, 22)] := by kernel_rfl
@[simp] theorem sz24 : sz Tryz.prog 24 = 1 := by kernel_rfl
@[simp] theorem byts24 : byts Tryz.prog 24 = 24 := by kernel_rfl
@[simp] theorem zer24 : zer Tryz.prog 24 = some ((AV.agg [AV.d D.nil])) := by kernel_rfl
@[simp] theorem tk25 : tk Tryz.prog 25 = TK.slice 2 := by kernel_rfl
@[simp] theorem sz25 : sz Tryz.prog 25 = 1 := by kernel_rfl
@[simp] theorem byts25 : byts Tryz.prog 25 = 24 := by kernel_rfl
@[simp] theorem zer25 : zer Tryz.prog 25 = some ((AV.d D.nil)) := by kernel_rfl
@[simp] theorem tk27 : tk Tryz.prog 27 = TK.struct [(0, 2), (1, 25)] := by kernel_rfl
@[simp] theorem sz27 : sz Tryz.prog 27 = 2 := by kernel_rfl
@[simp] theorem byts27 : byts Tryz.prog 27 = 32 := by kernel_rfl
@[simp] theorem zer27 : zer Tryz.prog 27 = some ((AV.agg [AV.d (D.int IntKind.i64 (0)), AV.d D.nil])) := by kernel_rfl
@[simp] theorem tk32 : tk Tryz.prog 32 = TK.struct [(0, 22)] := by kernel_rfl
@[simp] theorem sz32 : sz Tryz.prog 32 = 1 := by kernel_rfl
@[simp] theorem byts32 : byts Tryz.prog 32 = 24 := by kernel_rfl
@[simp] theorem zer32 : zer Tryz.prog 32 = some ((AV.agg [AV.d D.nil])) := by kernel_rfl
@[simp] theorem tk34 : tk Tryz.prog 34 = TK.struct [(0, 2), (1, 25)] := by kernel_rfl
@[simp] theorem sz34 : sz Tryz.prog 34 = 2 := by kernel_rfl
@[simp] theorem byts34 : byts Tryz.prog 34 = 32 := by kernel_rfl
@[simp] theorem zer34 : zer Tryz.prog 34 = some ((AV.agg [AV.d (D.int IntKind.i64 (0)), AV.d D.nil])) := by kernel_rfl
@[simp] theorem tk36 : tk Tryz.prog 36 = TK.func := by kernel_rfl
@[simp] theorem sz36 : sz Tryz.prog 36 = 1 := by kernel_rfl
@[simp] theorem byts36 : byts Tryz.prog 36 = 8 := by kernel_rfl
@[simp] theorem tk43 : tk Tryz.prog 43 = TK.slice 5 := by kernel_rfl
@[simp] theorem sz43 : sz Tryz.prog 43 = 1 := by kernel_rfl
@[simp] theorem byts43 : byts Tryz.prog 43 = 24 := by kernel_rfl
@[simp] theorem zer43 : zer Tryz.prog 43 = some ((AV.d D.nil)) := by kernel_rfl
@[simp] theorem tk46 : tk Tryz.prog 46 = TK.struct [(0, 2), (1, 25)] := by kernel_rfl
@[simp] theorem sz46 : sz Tryz.prog 46 = 2 := by kernel_rfl
@[simp] theorem byts46 : byts Tryz.prog 46 = 32 := by kernel_rfl
@[simp] theorem zer46 : zer Tryz.prog 46 = some ((AV.agg [AV.d (D.int IntKind.i64 (0)), AV.d D.nil])) := by kernel_rfl
@[simp] theorem tk54 : tk Tryz.prog 54 = TK.func := by kernel_rfl
@[simp] theorem sz54 : sz Tryz.prog 54 = 1 := by kernel_rfl
@[simp] theorem byts54 : byts Tryz.prog 54 = 8 := by kernel_rfl
@[simp] theorem tk62 : tk Tryz.prog 62 = TK.struct [(0, 2), (1, 25)] := by kernel_rfl
@[simp] theorem sz62 : sz Tryz.prog 62 = 2 := by kernel_rfl
@[simp] theorem byts62 : byts Tryz.prog 62 = 32 := by kernel_rfl
@[simp] theorem zer62 : zer Tryz.prog 62 = some ((AV.agg [AV.d (D.int IntKind.i64 (0)), AV.d D.nil])) := by kernel_rfl
@[simp] theorem tk121 : tk Tryz.prog 121 = TK.func := by kernel_rfl
@[simp] theorem sz121 : sz Tryz.prog 121 = 1 := by kernel_rfl
@[simp] theorem byts121 : byts Tryz.prog 121 = 8 := by kernel_rfl
@[simp] theorem tk127 : tk Tryz.prog 127 = TK.other := by kernel_rfl
@[simp] theorem sz127 : sz Tryz.prog 127 = 1 := by kernel_rfl
@[simp] theorem byts127 : byts Tryz.prog 127 = 8 := by kernel_rfl
@[simp] theorem zer127 : zer Tryz.prog 127 = some (AV.undef) := by kernel_rfl
@[simp] theorem tk133 : tk Tryz.prog 133 = TK.other := by kernel_rfl
@[simp] theorem sz133 : sz Tryz.prog 133 = 1 := by kernel_rfl
@[simp] theorem byts133 : byts Tryz.prog 133 = 8 := by kernel_rfl
@[simp] theorem zer133 : zer Tryz.prog 133 = some (AV.undef) := by kernel_rfl
@[simp] theorem tk138 : tk Tryz.prog 138 = TK.int IntKind.u64 := by kernel_rfl
@[simp] theorem sz138 : sz Tryz.prog 138 = 1 := by kernel_rfl
@[simp] theorem byts138 : byts Tryz.prog 138 = 8 := by kernel_rfl
@[simp] theorem zer138 : zer Tryz.prog 138 = some ((AV.d (D.int IntKind.u64 (0)))) := by kernel_rfl
@[simp] theorem tk144 : tk Tryz.prog 144 = TK.func := by kernel_rfl
@[simp] theorem sz144 : sz Tryz.prog 144 = 1 := by kernel_rfl
@[simp] theorem byts144 : byts Tryz.prog 144 = 8 := by kernel_rfl
@[simp] theorem tk157 : tk Tryz.prog 157 = TK.func := by kernel_rfl
@[simp] theorem sz157 : sz Tryz.prog 157 = 1 := by kernel_rfl
@[simp] theorem byts157 : byts Tryz.prog 157 = 8 := by kernel_rfl
@[simp] theorem tk179 : tk Tryz.prog 179 = TK.func := by kernel_rfl
@[simp] theorem sz179 : sz Tryz.prog 179 = 1 := by kernel_rfl
@[simp] theorem byts179 : byts Tryz.prog 179 = 8 := by kernel_rfl
@[simp] theorem tk182 : tk Tryz.prog 182 = TK.func := by kernel_rfl
@[simp] theorem sz182 : sz Tryz.prog 182 = 1 := by kernel_rfl
@[simp] theorem byts182 : byts Tryz.prog 182 = 8 := by kernel_rfl
@[simp] theorem tk209 : tk Tryz.prog 209 = TK.struct [(0, 2), (1, 22)] := by kernel_rfl
@[simp] theorem sz209 : sz Tryz.prog 209 = 2 := by kernel_rfl
@[simp] theorem byts209 : byts Tryz.prog 209 = 32 := by kernel_rfl
@[simp] theorem zer209 : zer Tryz.prog 209 = some ((AV.agg [AV.d (D.int IntKind.i64 (0)), AV.d D.nil])) := by kernel_rfl
@[simp] theorem tk213 : tk Tryz.prog 213 = TK.slice 46 := by kernel_rfl
@[simp] theorem sz213 : sz Tryz.prog 213 = 1 := by kernel_rfl
@[simp] theorem byts213 : byts Tryz.prog 213 = 24 := by kernel_rfl
@[simp] theorem zer213 : zer Tryz.prog 213 = some ((AV.d D.nil)) := by kernel_rfl
@[simp] theorem tk216 : tk Tryz.prog 216 = TK.struct [(0, 43), (1, 3), (2, 138)] := by kernel_rfl
@[simp] theorem sz216 : sz Tryz.prog 216 = 3 := by kernel_rfl
@[simp] theorem byts216 : byts Tryz.prog 216 = 40 := by kernel_rfl
@[simp] theorem zer216 : zer Tryz.prog 216 = some ((AV.agg [AV.d D.nil, AV.d (D.int IntKind.i64 (0)), AV.d (D.int IntKind.u64 (0))])) := by kernel_rfl
@[simp] theorem tk225 : tk Tryz.prog 225 = TK.slice 4 := by kernel_rfl
@[simp] theorem sz225 : sz Tryz.prog 225 = 1 := by kernel_rfl
@[simp] theorem byts225 : byts Tryz.prog 225 = 24 := by kernel_rfl
@[simp] theorem zer225 : zer Tryz.prog 225 = some ((AV.d D.nil)) := by kernel_rfl
@[simp] theorem tk230 : tk Tryz.prog 230 = TK.slice 9 := by kernel_rfl
@[simp] theorem sz230 : sz Tryz.prog 230 = 1 := by kernel_rfl
@[simp] theorem byts230 : byts Tryz.prog 230 = 24 := by kernel_rfl
@[simp] theorem zer230 : zer Tryz.prog 230 = some ((AV.d D.nil)) := by kernel_rfl
@[simp] theorem tk231 : tk Tryz.prog 231 = TK.int IntKind.u64 := by kernel_rfl
@[simp] theorem sz231 : sz Tryz.prog 231 = 1 := by kernel_rfl
@[simp] theorem byts231 : byts Tryz.prog 231 = 8 := by kernel_rfl
@[simp] theorem zer231 : zer Tryz.prog 231 = some ((AV.d (D.int IntKind.u64 (0)))) := by kernel_rfl
@[simp] theorem tk235 : tk Tryz.prog 235 = TK.slice 34 := by kernel_rfl
@[simp] theorem sz235 : sz Tryz.prog 235 = 1 := by kernel_rfl
@[simp] theorem byts235 : byts Tryz.prog 235 = 24 := by kernel_rfl
@[simp] theorem zer235 : zer Tryz.prog 235 = some ((AV.d D.nil)) := by kernel_rfl
@[simp] theorem tk241 : tk Tryz.prog 241 = TK.func := by kernel_rfl
@[simp] theorem sz241 : sz Tryz.prog 241 = 1 := by kernel_rfl
@[simp] theorem byts241 : byts Tryz.prog 241 = 8 := by kernel_rfl
@[simp] theorem tk257 : tk Tryz.prog 257 = TK.slice 3 := by kernel_rfl
@[simp] theorem sz257 : sz Tryz.prog 257 = 1 := by kernel_rfl
@[simp] theorem byts257 : byts Tryz.prog 257 = 24 := by kernel_rfl
@[simp] theorem zer257 : zer Tryz.prog 257 = some ((AV.d D.nil)) := by kernel_rfl
@[simp] theorem tk271 : tk Tryz.prog 271 = TK.int IntKind.i64 := by kernel_rfl
@[simp] theorem sz271 : sz Tryz.prog 271 = 1 := by kernel_rfl
@[simp] theorem byts271 : byts Tryz.prog 271 = 8 := by kernel_rfl
@[simp] theorem zer271 : zer Tryz.prog 271 = some ((AV.d (D.int IntKind.i64 (0)))) := by kernel_rfl
@[simp] theorem tk279 : tk Tryz.prog 279 = TK.int IntKind.u32 := by kernel_rfl
@[simp] theorem sz279 : sz Tryz.prog 279 = 1 := by kernel_rfl
@[simp] theorem byts279 : byts Tryz.prog 279 = 4 := by kernel_rfl
@[simp] theorem zer279 : zer Tryz.prog 279 = some ((AV.d (D.int IntKind.u32 (0)))) := by kernel_rfl
@[simp] theorem tk291 : tk Tryz.prog 291 = TK.int IntKind.u64 := by kernel_rfl
@[simp] theorem sz291 : sz Tryz.prog 291 = 1 := by kernel_rfl
@[simp] theorem byts291 : byts Tryz.prog 291 = 8 := by kernel_rfl
@[simp] theorem zer291 : zer Tryz.prog 291 = some ((AV.d (D.int IntKind.u64 (0)))) := by kernel_rfl
@[simp] theorem tk295 : tk Tryz.prog 295 = TK.other := by kernel_rfl
@[simp] theorem sz295 : sz Tryz.prog 295 = 1 := by kernel_rfl
@[simp] theorem byts295 : byts Tryz.prog 295 = 8 := by kernel_rfl
@[simp] theorem zer295 : zer Tryz.prog 295 = some (AV.undef) := by kernel_rfl
@[simp] theorem fb3 : fbody Tryz.prog 3 = some ⟨bodyOf Tryz.f3, 129, [.tmp 8]⟩ := by kernel_rfl
@[simp] theorem fb4 : fbody Tryz.prog 4 = some ⟨bodyOf Tryz.f4, 327, [.tmp 2]⟩ := by kernel_rfl
@[simp] theorem fb5 : fbody Tryz.prog 5 = some ⟨bodyOf Tryz.f5, 177, [.tmp 2]⟩ := by kernel_rfl
@[simp] theorem fb6 : fbody Tryz.prog 6 = some ⟨bodyOf Tryz.f6, 124, [.tmp 6]⟩ := by kernel_rfl
@[simp] theorem fb7 : fbody Tryz.prog 7 = some ⟨bodyOf Tryz.f7, 96, [.tmp 2]⟩ := by kernel_rfl
@[simp] theorem fb8 : fbody Tryz.prog 8 = some ⟨bodyOf Tryz.f8, 96, [.tmp 2]⟩ := by kernel_rfl
@[simp] theorem fb9 : fbody Tryz.prog 9 = some ⟨bodyOf Tryz.f9, 321, [.tmp 2]⟩ := by kernel_rfl
@[simp] theorem fb10 : fbody Tryz.prog 10 = some ⟨bodyOf Tryz.f10, 125, [.tmp 2]⟩ := by kernel_rfl
@[simp] theorem fb11 : fbody Tryz.prog 11 = some ⟨bodyOf Tryz.f11, 339, [.tmp 2]⟩ := by kernel_rfl
@[simp] theorem fb12 : fbody Tryz.prog 12 = some ⟨bodyOf Tryz.f12, 451, [.tmp 2]⟩ := by kernel_rfl
@[simp] theorem fb13 : fbody Tryz.prog 13 = some ⟨bodyOf Tryz.f13, 12, [.tmp 4]⟩ := by kernel_rfl
@[simp] theorem fb14 : fbody Tryz.prog 14 = some ⟨bodyOf Tryz.f14, 12, [.tmp 4]⟩ := by kernel_rfl
@[simp] theorem fb15 : fbody Tryz.prog 15 = some ⟨bodyOf Tryz.f15, 169, [.tmp 8, .tmp 9]⟩ := by kernel_rfl
@[simp] theorem fb16 : fbody Tryz.prog 16 = some ⟨bodyOf Tryz.f16, 9, [.cell 2 32]⟩ := by kernel_rfl
@[simp] theorem fb17 : fbody Tryz.prog 17 = some ⟨bodyOf Tryz.f17, 12, [.cell 2 34]⟩ := by kernel_rfl
@[simp] theorem fb18 : fbody Tryz.prog 18 = some ⟨bodyOf Tryz.f18, 75, [.tmp 8, .tmp 9]⟩ := by kernel_rfl
@[simp] theorem fb19 : fbody Tryz.prog 19 = some ⟨bodyOf Tryz.f19, 26, [.tmp 4]⟩ := by kernel_rfl
@[simp] theorem fb20 : fbody Tryz.prog 20 = some ⟨bodyOf Tryz.f20, 11, [.tmp 4]⟩ := by kernel_rfl
@[simp] theorem fb21 : fbody Tryz.prog 21 = some ⟨bodyOf Tryz.f21, 16, [.tmp 4]⟩ := by kernel_rfl
@[simp] theorem fb22 : fbody Tryz.prog 22 = some ⟨bodyOf Tryz.f22, 10, [.tmp 4]⟩ := by kernel_rfl
@[simp] theorem fb23 : fbody Tryz.prog 23 = some ⟨bodyOf Tryz.f23, 10, [.tmp 4]⟩ := by kernel_rfl
@[simp] theorem fb24 : fbody Tryz.prog 24 = some ⟨bodyOf Tryz.f24, 19, [.tmp 4]⟩ := by kernel_rfl
@[simp] theorem fb25 : fbody Tryz.prog 25 = some ⟨bodyOf Tryz.f25, 21, [.tmp 4]⟩ := by kernel_rfl
@[simp] theorem fb26 : fbody Tryz.prog 26 = some ⟨bodyOf Tryz.f26, 6, [.tmp 2]⟩ := by kernel_rfl
@[simp] theorem fb27 : fbody Tryz.prog 27 = some ⟨bodyOf Tryz.f27, 12, [.cell 2 32, .cell 3 34, .tmp 4, .cell 5 46]⟩ := by kernel_rfl
@[simp] theorem fb28 : fbody Tryz.prog 28 = some ⟨bodyOf Tryz.f28, 51, [.cell 8 46, .tmp 9]⟩ := by kernel_rfl
@[simp] theorem fb29 : fbody Tryz.prog 29 = some ⟨bodyOf Tryz.f29, 51, [.cell 8 46, .tmp 9]⟩ := by kernel_rfl
@[simp] theorem fb30 : fbody Tryz.prog 30 = some ⟨bodyOf Tryz.f30, 17, [.tmp 4]⟩ := by kernel_rfl
@[simp] theorem fb31 : fbody Tryz.prog 31 = some ⟨bodyOf Tryz.f31, 33, [.cell 8 46, .tmp 9]⟩ := by kernel_rfl
@[simp] theorem fb32 : fbody Tryz.prog 32 = some ⟨bodyOf Tryz.f32, 27, [.cell 8 46, .tmp 9]⟩ := by kernel_rfl
@[simp] theorem fb33 : fbody Tryz.prog 33 = some ⟨bodyOf Tryz.f33, 21, [.cell 2 32, .cell 3 34, .tmp 4, .cell 5 46]⟩ := by kernel_rfl
@[simp] theorem fb34 : fbody Tryz.prog 34 = some ⟨bodyOf Tryz.f34, 34, [.cell 8 46, .tmp 9]⟩ := by kernel_rfl
@[simp] theorem fb35 : fbody Tryz.prog 35 = some ⟨bodyOf Tryz.f35, 27, [.cell 8 46, .tmp 9]⟩ := by kernel_rfl
@[simp] theorem fb36 : fbody Tryz.prog 36 = some ⟨bodyOf Tryz.f36, 21, [.cell 2 32, .cell 3 34, .tmp 4, .cell 5 46]⟩ := by kernel_rfl
@[simp] theorem fb37 : fbody Tryz.prog 37 = some ⟨bodyOf Tryz.f37, 31, [.cell 8 46, .tmp 9]⟩ := by kernel_rfl
@[simp] theorem fb38 : fbody Tryz.prog 38 = some ⟨bodyOf Tryz.f38, 35, [.cell 8 46, .tmp 9]⟩ := by kernel_rfl
@[simp] theorem fb39 : fbody Tryz.prog 39 = some ⟨bodyOf Tryz.f39, 21, [.cell 6 34, .tmp 7]⟩ := by kernel_rfl
@[simp] theorem fb40 : fbody Tryz.prog 40 = some ⟨bodyOf Tryz.f40, 20, [.cell 6 34, .tmp 7]⟩ := by kernel_rfl
@[simp] theorem fb41 : fbody Tryz.prog 41 = some ⟨bodyOf Tryz.f41, 17, [.tmp 4]⟩ := by kernel_rfl
@[simp] theorem fb42 : fbody Tryz.prog 42 = some ⟨bodyOf Tryz.f42, 24, [.cell 6 34, .tmp 7]⟩ := by kernel_rfl
@[simp] theorem fb43 : fbody Tryz.prog 43 = some ⟨bodyOf Tryz.f43, 23, [.cell 6 34, .tmp 7]⟩ := by kernel_rfl
@[simp] theorem fb44 : fbody Tryz.prog 44 = some ⟨bodyOf Tryz.f44, 18, [.tmp 2]⟩ := by kernel_rfl
@[simp] theorem fb45 : fbody Tryz.prog 45 = some ⟨bodyOf Tryz.f45, 21, [.tmp 6, .tmp 7]⟩ := by kernel_rfl
@[simp] theorem fb46 : fbody Tryz.prog 46 = some ⟨bodyOf Tryz.f46, 26, [.cell 6 46, .tmp 7]⟩ := by kernel_rfl
@[simp] theorem fb47 : fbody Tryz.prog 47 = some ⟨bodyOf Tryz.f47, 26, [.cell 2 32, .cell 3 34, .tmp 4, .tmp 5]⟩ := by kernel_rfl
@[simp] theorem fb48 : fbody Tryz.prog 48 = some ⟨bodyOf Tryz.f48, 26, [.tmp 4]⟩ := by kernel_rfl
@[simp] theorem fb49 : fbody Tryz.prog 49 = some ⟨bodyOf Tryz.f49, 25, [.tmp 6, .tmp 7]⟩ := by kernel_rfl
@[simp] theorem fb50 : fbody Tryz.prog 50 = some ⟨bodyOf Tryz.f50, 12, [.tmp 4]⟩ := by kernel_rfl
@[simp] theorem fb51 : fbody Tryz.prog 51 = some ⟨bodyOf Tryz.f51, 68, [.tmp 6, .tmp 7]⟩ := by kernel_rfl
@[simp] theorem fb52 : fbody Tryz.prog 52 = some ⟨bodyOf Tryz.f52, 12, [.cell 2 46]⟩ := by kernel_rfl
@[simp] theorem fb53 : fbody Tryz.prog 53 = some ⟨bodyOf Tryz.f53, 25, [.tmp 6, .tmp 7]⟩ := by kernel_rfl
@[simp] theorem fb54 : fbody Tryz.prog 54 = some ⟨bodyOf Tryz.f54, 27, [.tmp 4]⟩ := by kernel_rfl
@[simp] theorem fb55 : fbody Tryz.prog 55 = some ⟨bodyOf Tryz.f55, 16, [.tmp 4]⟩ := by kernel_rfl
@[simp] theorem fb56 : fbody Tryz.prog 56 = some ⟨bodyOf Tryz.f56, 10, [.tmp 4]⟩ := by kernel_rfl
@[simp] theorem fb57 : fbody Tryz.prog 57 = some ⟨bodyOf Tryz.f57, 19, [.tmp 4]⟩ := by kernel_rfl
@[simp] theorem fb58 : fbody Tryz.prog 58 = some ⟨bodyOf Tryz.f58, 21, [.tmp 4]⟩ := by kernel_rfl
@[simp] theorem fb59 : fbody Tryz.prog 59 = some ⟨bodyOf Tryz.f59, 9, [.tmp 2, .tmp 3]⟩ := by kernel_rfl
@[simp] theorem fb60 : fbody Tryz.prog 60 = some ⟨bodyOf Tryz.f60, 9, [.tmp 2, .tmp 3]⟩ := by kernel_rfl
@[simp] theorem fb61 : fbody Tryz.prog 61 = some ⟨bodyOf Tryz.f61, 51, [.tmp 2, .tmp 3]⟩ := by kernel_rfl
@[simp] theorem fb62 : fbody Tryz.prog 62 = some ⟨bodyOf Tryz.f62, 85, [.tmp 2, .tmp 3]⟩ := by kernel_rfl
@[simp] theorem fb63 : fbody Tryz.prog 63 = some ⟨bodyOf Tryz.f63, 10, [.cell 2 32, .tmp 3, .cell 4 46]⟩ := by kernel_rfl
@[simp] theorem fb64 : fbody Tryz.prog 64 = some ⟨bodyOf Tryz.f64, 20, [.tmp 6, .tmp 7]⟩ := by kernel_rfl
@[simp] theorem fb65 : fbody Tryz.prog 65 = some ⟨bodyOf Tryz.f65, 20, [.tmp 6, .tmp 7]⟩ := by kernel_rfl
@[simp] theorem fb66 : fbody Tryz.prog 66 = some ⟨bodyOf Tryz.f66, 27, [.tmp 4]⟩ := by kernel_rfl
@[simp] theorem fb67 : fbody Tryz.prog 67 = some ⟨bodyOf Tryz.f67, 37, [.tmp 6, .tmp 7]⟩ := by kernel_rfl
@[simp] theorem fb68 : fbody Tryz.prog 68 = some ⟨bodyOf Tryz.f68, 42, [.tmp 6, .tmp 7]⟩ := by kernel_rfl
@[simp] theorem fb69 : fbody Tryz.prog 69 = some ⟨bodyOf Tryz.f69, 20, [.tmp 6, .tmp 7]⟩ := by kernel_rfl
@[simp] theorem fb70 : fbody Tryz.prog 70 = some ⟨bodyOf Tryz.f70, 20, [.tmp 6, .tmp 7]⟩ := by kernel_rfl
@[simp] theorem fb71 : fbody Tryz.prog 71 = some ⟨bodyOf Tryz.f71, 19, [.cell 4 34, .tmp 5]⟩ := by kernel_rfl
@[simp] theorem fb72 : fbody Tryz.prog 72 = some ⟨bodyOf Tryz.f72, 25, [.cell 6 46, .tmp 7]⟩ := by kernel_rfl
@[simp] theorem fb73 : fbody Tryz.prog 73 = some ⟨bodyOf Tryz.f73, 18, [.tmp 4]⟩ := by kernel_rfl
@[simp] theorem fb74 : fbody Tryz.prog 74 = some ⟨bodyOf Tryz.f74, 15, [.cell 2 32]⟩ := by kernel_rfl
@[simp] theorem fb75 : fbody Tryz.prog 75 = some ⟨bodyOf Tryz.f75, 18, [.tmp 2]⟩ := by kernel_rfl
@[simp] theorem fb76 : fbody Tryz.prog 76 = some ⟨bodyOf Tryz.f76, 59, [.cell 2 32, .tmp 3, .cell 4 34, .cell 5 46]⟩ := by kernel_rfl
@[simp] theorem fb77 : fbody Tryz.prog 77 = some ⟨bodyOf Tryz.f77, 58, [.cell 8 34, .cell 9 46, .tmp 10]⟩ := by kernel_rfl
@[simp] theorem fb78 : fbody Tryz.prog 78 = some ⟨bodyOf Tryz.f78, 58, [.cell 8 34, .cell 9 46, .tmp 10]⟩ := by kernel_rfl
@[simp] theorem fb79 : fbody Tryz.prog 79 = some ⟨bodyOf Tryz.f79, 17, [.tmp 4]⟩ := by kernel_rfl
@[simp] theorem fb80 : fbody Tryz.prog 80 = some ⟨bodyOf Tryz.f80, 17, [.tmp 4]⟩ := by kernel_rfl
@[simp] theorem fb81 : fbody Tryz.prog 81 = some ⟨bodyOf Tryz.f81, 30, [.cell 4 32, .tmp 5, .tmp 6]⟩ := by kernel_rfl
@[simp] theorem fb82 : fbody Tryz.prog 82 = some ⟨bodyOf Tryz.f82, 43, [.cell 8 46, .tmp 9]⟩ := by kernel_rfl
@[simp] theorem fb83 : fbody Tryz.prog 83 = some ⟨bodyOf Tryz.f83, 17, [.cell 2 32, .tmp 3, .tmp 4]⟩ := by kernel_rfl
@[simp] theorem fb84 : fbody Tryz.prog 84 = some ⟨bodyOf Tryz.f84, 31, [.tmp 6, .tmp 7]⟩ := by kernel_rfl
@[simp] theorem fb85 : fbody Tryz.prog 85 = some ⟨bodyOf Tryz.f85, 33, [.tmp 6, .tmp 7]⟩ := by kernel_rfl
@[simp] theorem fb86 : fbody Tryz.prog 86 = some ⟨bodyOf Tryz.f86, 26, [.tmp 6, .tmp 7]⟩ := by kernel_rfl
@[simp] theorem fb87 : fbody Tryz.prog 87 = some ⟨bodyOf Tryz.f87, 43, [.cell 2 32, .cell 3 34, .tmp 4, .cell 5 46, .tmp 6]⟩ := by kernel_rfl
@[simp] theorem fb88 : fbody Tryz.prog 88 = some ⟨bodyOf Tryz.f88, 54, [.cell 10 46, .tmp 11]⟩ := by kernel_rfl
@[simp] theorem fb89 : fbody Tryz.prog 89 = some ⟨bodyOf Tryz.f89, 123, [.cell 10 46, .tmp 11]⟩ := by kernel_rfl
@[simp] theorem fb90 : fbody Tryz.prog 90 = some ⟨bodyOf Tryz.f90, 17, [.cell 4 32, .tmp 5]⟩ := by kernel_rfl
@[simp] theorem fb91 : fbody Tryz.prog 91 = some ⟨bodyOf Tryz.f91, 21, [.cell 6 34, .tmp 7]⟩ := by kernel_rfl
@[simp] theorem fb92 : fbody Tryz.prog 92 = some ⟨bodyOf Tryz.f92, 38, [.cell 2 32, .cell 3 34, .tmp 4, .cell 5 46]⟩ := by kernel_rfl
@[simp] theorem fb93 : fbody Tryz.prog 93 = some ⟨bodyOf Tryz.f93, 53, [.cell 8 46, .tmp 9]⟩ := by kernel_rfl
@[simp] theorem fb94 : fbody Tryz.prog 94 = some ⟨bodyOf Tryz.f94, 123, [.cell 8 46, .tmp 9]⟩ := by kernel_rfl
@[simp] theorem fb95 : fbody Tryz.prog 95 = some ⟨bodyOf Tryz.f95, 45, [.cell 2 32, .cell 3 34, .tmp 4, .cell 5 46]⟩ := by kernel_rfl
@[simp] theorem fb96 : fbody Tryz.prog 96 = some ⟨bodyOf Tryz.f96, 42, [.cell 8 46, .tmp 9]⟩ := by kernel_rfl
@[simp] theorem fb97 : fbody Tryz.prog 97 = some ⟨bodyOf Tryz.f97, 18, [.tmp 4, .tmp 5]⟩ := by kernel_rfl
@[simp] theorem fb98 : fbody Tryz.prog 98 = some ⟨bodyOf Tryz.f98, 43, [.cell 10 46, .tmp 11]⟩ := by kernel_rfl
@[simp] theorem fb99 : fbody Tryz.prog 99 = some ⟨bodyOf Tryz.f99, 21, [.tmp 6, .tmp 7]⟩ := by kernel_rfl
@[simp] theorem fb100 : fbody Tryz.prog 100 = some ⟨bodyOf Tryz.f100, 15, [.cell 2 32, .tmp 3]⟩ := by kernel_rfl
@[simp] theorem fb101 : fbody Tryz.prog 101 = some ⟨bodyOf Tryz.f101, 22, [.tmp 4, .tmp 5]⟩ := by kernel_rfl
@[simp] theorem fb102 : fbody Tryz.prog 102 = some ⟨bodyOf Tryz.f102, 22, [.tmp 4, .tmp 5]⟩ := by kernel_rfl
@[simp] theorem fb103 : fbody Tryz.prog 103 = some ⟨bodyOf Tryz.f103, 18, [.tmp 4, .tmp 5]⟩ := by kernel_rfl
@[simp] theorem fb104 : fbody Tryz.prog 104 = some ⟨bodyOf Tryz.f104, 17, [.cell 2 32, .tmp 3, .tmp 4]⟩ := by kernel_rfl
@[simp] theorem fb105 : fbody Tryz.prog 105 = some ⟨bodyOf Tryz.f105, 73, [.tmp 6, .tmp 7]⟩ := by kernel_rfl
@[simp] theorem fb106 : fbody Tryz.prog 106 = some ⟨bodyOf Tryz.f106, 76, [.tmp 6, .tmp 7]⟩ := by kernel_rfl
@[simp] theorem fb107 : fbody Tryz.prog 107 = some ⟨bodyOf Tryz.f107, 32, [.cell 2 32, .cell 3 34, .tmp 4]⟩ := by kernel_rfl
@[simp] theorem fb108 : fbody Tryz.prog 108 = some ⟨bodyOf Tryz.f108, 20, [.cell 6 34, .tmp 7]⟩ := by kernel_rfl
@[simp] theorem fb109 : fbody Tryz.prog 109 = some ⟨bodyOf Tryz.f109, 15, [.cell 2 32, .tmp 3]⟩ := by kernel_rfl
@[simp] theorem fb110 : fbody Tryz.prog 110 = some ⟨bodyOf Tryz.f110, 17, [.cell 4 32, .tmp 5]⟩ := by kernel_rfl
@[simp] theorem fb111 : fbody Tryz.prog 111 = some ⟨bodyOf Tryz.f111, 10, [.tmp 4]⟩ := by kernel_rfl
@[simp] theorem fb112 : fbody Tryz.prog 112 = some ⟨bodyOf Tryz.f112, 27, [.tmp 4]⟩ := by kernel_rfl
@[simp] theorem fb113 : fbody Tryz.prog 113 = some ⟨bodyOf Tryz.f113, 12, [.tmp 4]⟩ := by kernel_rfl
@[simp] theorem fb114 : fbody Tryz.prog 114 = some ⟨bodyOf Tryz.f114, 31, [.tmp 6]⟩ := by kernel_rfl
@[simp] theorem fb115 : fbody Tryz.prog 115 = some ⟨bodyOf Tryz.f115, 15, [.tmp 6]⟩ := by kernel_rfl
@[simp] theorem fb116 : fbody Tryz.prog 116 = some ⟨bodyOf Tryz.f116, 26, [.tmp 6]⟩ := by kernel_rfl
@[simp] theorem fb117 : fbody Tryz.prog 117 = some ⟨bodyOf Tryz.f117, 30, [.cell 4 34]⟩ := by kernel_rfl
@[simp] theorem fb118 : fbody Tryz.prog 118 = some ⟨bodyOf Tryz.f118, 37, [.tmp 6, .tmp 7]⟩ := by kernel_rfl
@[simp] theorem fb119 : fbody Tryz.prog 119 = some ⟨bodyOf Tryz.f119, 31, [.cell 4 46]⟩ := by kernel_rfl
@[simp] theorem fb120 : fbody Tryz.prog 120 = some ⟨bodyOf Tryz.f120, 31, [.cell 4 46]⟩ := by kernel_rfl
@[simp] theorem fb121 : fbody Tryz.prog 121 = some ⟨bodyOf Tryz.f121, 37, [.cell 8 46]⟩ := by kernel_rfl
@[simp] theorem fb122 : fbody Tryz.prog 122 = some ⟨bodyOf Tryz.f122, 73, [.tmp 6]⟩ := by kernel_rfl
@[simp] theorem fb123 : fbody Tryz.prog 123 = some ⟨bodyOf Tryz.f123, 23, [.tmp 2]⟩ := by kernel_rfl
@[simp] theorem fb124 : fbody Tryz.prog 124 = some ⟨bodyOf Tryz.f124, 22, [.tmp 2]⟩ := by kernel_rfl
@[simp] theorem fb125 : fbody Tryz.prog 125 = some ⟨bodyOf Tryz.f125, 30, [.tmp 6]⟩ := by kernel_rfl
@[simp] theorem fb126 : fbody Tryz.prog 126 = some ⟨bodyOf Tryz.f126, 9, [.tmp 4]⟩ := by kernel_rfl
@[simp] theorem fb127 : fbody Tryz.prog 127 = some ⟨bodyOf Tryz.f127, 11, [.cell 6 34]⟩ := by kernel_rfl
@[simp] theorem fb128 : fbody Tryz.prog 128 = some ⟨bodyOf Tryz.f128, 51, [.tmp 12]⟩ := by kernel_rfl
@[simp] theorem fb129 : fbody Tryz.prog 129 = some ⟨bodyOf Tryz.f129, 7, [.cell 3 46]⟩ := by kernel_rfl
@[simp] theorem fb130 : fbody Tryz.prog 130 = some ⟨bodyOf Tryz.f130, 8, [.cell 4 46]⟩ := by kernel_rfl
@[simp] theorem fb131 : fbody Tryz.prog 131 = some ⟨bodyOf Tryz.f131, 7, [.cell 3 46]⟩ := by kernel_rfl
@[simp] theorem fb132 : fbody Tryz.prog 132 = some ⟨bodyOf Tryz.f132, 8, [.cell 4 46]⟩ := by kernel_rfl
@[simp] theorem fb133 : fbody Tryz.prog 133 = some ⟨bodyOf Tryz.f133, 11, [.cell 5 46]⟩ := by kernel_rfl
@[simp] theorem fb134 : fbody Tryz.prog 134 = some ⟨bodyOf Tryz.f134, 20, [.cell 8 46]⟩ := by kernel_rfl
@[simp] theorem fb135 : fbody Tryz.prog 135 = some ⟨bodyOf Tryz.f135, 21, [.cell 2 32, .cell 3 34, .tmp 4, .cell 5 46]⟩ := by kernel_rfl
@[simp] theorem fb136 : fbody Tryz.prog 136 = some ⟨bodyOf Tryz.f136, 27, [.tmp 6]⟩ := by kernel_rfl
@[simp] theorem fb137 : fbody Tryz.prog 137 = some ⟨bodyOf Tryz.f137, 22, [.tmp 6]⟩ := by kernel_rfl
@[simp] theorem fb138 : fbody Tryz.prog 138 = some ⟨bodyOf Tryz.f138, 26, [.tmp 10]⟩ := by kernel_rfl
@[simp] theorem fb139 : fbody Tryz.prog 139 = some ⟨bodyOf Tryz.f139, 28, [.tmp 6]⟩ := by kernel_rfl
@[simp] theorem fb140 : fbody Tryz.prog 140 = some ⟨bodyOf Tryz.f140, 119, [.cell 4 32, .cell 5 34, .tmp 6, .cell 7 46]⟩ := by kernel_rfl
@[simp] theorem fb141 : fbody Tryz.prog 141 = some ⟨bodyOf Tryz.f141, 31, [.tmp 6]⟩ := by kernel_rfl
@[simp] theorem fb142 : fbody Tryz.prog 142 = some ⟨bodyOf Tryz.f142, 26, [.tmp 6]⟩ := by kernel_rfl
@[simp] theorem fb143 : fbody Tryz.prog 143 = some ⟨bodyOf Tryz.f143, 15, [.cell 6 46]⟩ := by kernel_rfl
@[simp] theorem fb144 : fbody Tryz.prog 144 = some ⟨bodyOf Tryz.f144, 38, [.tmp 2]⟩ := by kernel_rfl
@[simp] theorem fb145 : fbody Tryz.prog 145 = some ⟨bodyOf Tryz.f145, 59, [.cell 2 32, .cell 3 34, .tmp 4]⟩ := by kernel_rfl
@[simp] theorem fb146 : fbody Tryz.prog 146 = some ⟨bodyOf Tryz.f146, 12, [.tmp 4]⟩ := by kernel_rfl
@[simp] theorem fb147 : fbody Tryz.prog 147 = some ⟨bodyOf Tryz.f147, 17, [.tmp 4]⟩ := by kernel_rfl
@[simp] theorem fb148 : fbody Tryz.prog 148 = some ⟨bodyOf Tryz.f148, 19, [.tmp 6]⟩ := by kernel_rfl
@[simp] theorem fb149 : fbody Tryz.prog 149 = some ⟨bodyOf Tryz.f149, 19, [.tmp 6]⟩ := by kernel_rfl
@[simp] theorem fb150 : fbody Tryz.prog 150 = some ⟨bodyOf Tryz.f150, 52, [.tmp 4]⟩ := by kernel_rfl
@[simp] theorem fb151 : fbody Tryz.prog 151 = some ⟨bodyOf Tryz.f151, 43, [.tmp 6]⟩ := by kernel_rfl
@[simp] theorem fb152 : fbody Tryz.prog 152 = some ⟨bodyOf Tryz.f152, 38, [.tmp 6]⟩ := by kernel_rfl
@[simp] theorem fb153 : fbody Tryz.prog 153 = some ⟨bodyOf Tryz.f153, 46, [.tmp 6]⟩ := by kernel_rfl
@[simp] theorem fb154 : fbody Tryz.prog 154 = some ⟨bodyOf Tryz.f154, 6, [.tmp 2]⟩ := by kernel_rfl
@[simp] theorem fb155 : fbody Tryz.prog 155 = some ⟨bodyOf Tryz.f155, 24, [.tmp 6]⟩ := by kernel_rfl
@[simp] theorem fb156 : fbody Tryz.prog 156 = some ⟨bodyOf Tryz.f156, 21, [.tmp 2]⟩ := by kernel_rfl
@[simp] theorem fb157 : fbody Tryz.prog 157 = some ⟨bodyOf Tryz.f157, 35, [.tmp 6]⟩ := by kernel_rfl
@[simp] theorem fb158 : fbody Tryz.prog 158 = some ⟨bodyOf Tryz.f158, 15, [.tmp 6]⟩ := by kernel_rfl
@[simp] theorem fb159 : fbody Tryz.prog 159 = some ⟨bodyOf Tryz.f159, 42, [.tmp 4]⟩ := by kernel_rfl
@[simp] theorem fb160 : fbody Tryz.prog 160 = some ⟨bodyOf Tryz.f160, 53, [.tmp 2]⟩ := by kernel_rfl
@[simp] theorem fb161 : fbody Tryz.prog 161 = some ⟨bodyOf Tryz.f161, 10, [.tmp 3]⟩ := by kernel_rfl
@[simp] theorem fb162 : fbody Tryz.prog 162 = some ⟨bodyOf Tryz.f162, 9, [.tmp 4]⟩ := by kernel_rfl
@[simp] theorem fb163 : fbody Tryz.prog 163 = some ⟨bodyOf Tryz.f163, 137, [.tmp 2]⟩ := by kernel_rfl
@[simp] theorem fb164 : fbody Tryz.prog 164 = some ⟨bodyOf Tryz.f164, 16, [.tmp 4]⟩ := by kernel_rfl
@[simp] theorem fb165 : fbody Tryz.prog 165 = some ⟨bodyOf Tryz.f165, 110, [.tmp 2]⟩ := by kernel_rfl
@[simp] theorem fb166 : fbody Tryz.prog 166 = some ⟨bodyOf Tryz.f166, 13, [.tmp 2]⟩ := by kernel_rfl
@[simp] theorem fb167 : fbody Tryz.prog 167 = some ⟨bodyOf Tryz.f167, 68, [.tmp 2]⟩ := by kernel_rfl
@[simp] theorem fb168 : fbody Tryz.prog 168 = some ⟨bodyOf Tryz.f168, 125, [.tmp 2]⟩ := by kernel_rfl
@[simp] theorem fb169 : fbody Tryz.prog 169 = some ⟨bodyOf Tryz.f169, 6, [.tmp 2]⟩ := by kernel_rfl
@[simp] theorem fb170 : fbody Tryz.prog 170 = some ⟨bodyOf Tryz.f170, 16, [.tmp 6]⟩ := by kernel_rfl
@[simp] theorem fb171 : fbody Tryz.prog 171 = some ⟨bodyOf Tryz.f171, 12, [.cell 4 34]⟩ := by kernel_rfl
@[simp] theorem fb172 : fbody Tryz.prog 172 = some ⟨bodyOf Tryz.f172, 33, [.tmp 4]⟩ := by kernel_rfl
@[simp] theorem fb173 : fbody Tryz.prog 173 = some ⟨bodyOf Tryz.f173, 19, [.tmp 4]⟩ := by kernel_rfl
@[simp] theorem fb174 : fbody Tryz.prog 174 = some ⟨bodyOf Tryz.f174, 33, [.tmp 6]⟩ := by kernel_rfl
@[simp] theorem fb175 : fbody Tryz.prog 175 = some ⟨bodyOf Tryz.f175, 28, []⟩ := by kernel_rfl
@[simp] theorem fb176 : fbody Tryz.prog 176 = some ⟨bodyOf Tryz.f176, 115, [.cell 2 32, .tmp 3, .cell 4 46]⟩ := by kernel_rfl
@[simp] theorem fb177 : fbody Tryz.prog 177 = some ⟨bodyOf Tryz.f177, 52, [.tmp 6]⟩ := by kernel_rfl
@[simp] theorem fb178 : fbody Tryz.prog 178 = some ⟨bodyOf Tryz.f178, 68, [.tmp 6]⟩ := by kernel_rfl
@[simp] theorem fb179 : fbody Tryz.prog 179 = some ⟨bodyOf Tryz.f179, 28, [.tmp 10]⟩ := by kernel_rfl
@[simp] theorem fb180 : fbody Tryz.prog 180 = some ⟨bodyOf Tryz.f180, 36, [.tmp 6]⟩ := by kernel_rfl
@[simp] theorem fb181 : fbody Tryz.prog 181 = some ⟨bodyOf Tryz.f181, 9, [.tmp 2]⟩ := by kernel_rfl
@[simp] theorem fb182 : fbody Tryz.prog 182 = some ⟨bodyOf Tryz.f182, 52, [.tmp 6]⟩ := by kernel_rfl
@[simp] theorem fb183 : fbody Tryz.prog 183 = some ⟨bodyOf Tryz.f183, 19, [.cell 4 46]⟩ := by kernel_rfl
@[simp] theorem fb184 : fbody Tryz.prog 184 = some ⟨bodyOf Tryz.f184, 58, [.tmp 4]⟩ := by kernel_rfl
@[simp] theorem fb185 : fbody Tryz.prog 185 = some ⟨bodyOf Tryz.f185, 68, [.cell 4 32]⟩ := by kernel_rfl
@[simp] theorem fb186 : fbody Tryz.prog 186 = some ⟨bodyOf Tryz.f186, 28, [.cell 2 32]⟩ := by kernel_rfl
@[simp] theorem fb187 : fbody Tryz.prog 187 = some ⟨bodyOf Tryz.f187, 7, [.cell 2 32]⟩ := by kernel_rfl
@[simp] theorem fb188 : fbody Tryz.prog 188 = some ⟨bodyOf Tryz.f188, 19, [.cell 2 32, .tmp 3]⟩ := by kernel_rfl
@[simp] theorem fb189 : fbody Tryz.prog 189 = some ⟨bodyOf Tryz.f189, 34, [.tmp 4]⟩ := by kernel_rfl
@[simp] theorem fb190 : fbody Tryz.prog 190 = some ⟨bodyOf Tryz.f190, 61, [.cell 4 32, .tmp 5]⟩ := by kernel_rfl
@[simp] theorem fb191 : fbody Tryz.prog 191 = some ⟨bodyOf Tryz.f191, 18, [.cell 6 34]⟩ := by kernel_rfl
@[simp] theorem fb192 : fbody Tryz.prog 192 = some ⟨bodyOf Tryz.f192, 6, [.tmp 2]⟩ := by kernel_rfl
@[simp] theorem fb193 : fbody Tryz.prog 193 = some ⟨bodyOf Tryz.f193, 54, [.cell 8 46]⟩ := by kernel_rfl
@[simp] theorem fb194 : fbody Tryz.prog 194 = some ⟨bodyOf Tryz.f194, 27, [.tmp 6]⟩ := by kernel_rfl
@[simp] theorem fb195 : fbody Tryz.prog 195 = some ⟨bodyOf Tryz.f195, 44, [.cell 4 34]⟩ := by kernel_rfl
@[simp] theorem fb196 : fbody Tryz.prog 196 = some ⟨bodyOf Tryz.f196, 52, [.cell 6 46]⟩ := by kernel_rfl
@[simp] theorem fb197 : fbody Tryz.prog 197 = some ⟨bodyOf Tryz.f197, 16, [.tmp 4]⟩ := by kernel_rfl
@[simp] theorem fb198 : fbody Tryz.prog 198 = some ⟨bodyOf Tryz.f198, 28, [.tmp 4]⟩ := by kernel_rfl
@[simp] theorem fb199 : fbody Tryz.prog 199 = some ⟨bodyOf Tryz.f199, 19, [.cell 4 32, .tmp 5]⟩ := by kernel_rfl
@[simp] theorem fb200 : fbody Tryz.prog 200 = some ⟨bodyOf Tryz.f200, 23, [.cell 10 34, .cell 11 46]⟩ := by kernel_rfl
@[simp] theorem fb201 : fbody Tryz.prog 201 = some ⟨bodyOf Tryz.f201, 16, [.tmp 4]⟩ := by kernel_rfl
@[simp] theorem fb202 : fbody Tryz.prog 202 = some ⟨bodyOf Tryz.f202, 85, [.cell 10 34, .cell 11 46]⟩ := by kernel_rfl
@[simp] theorem fb203 : fbody Tryz.prog 203 = some ⟨bodyOf Tryz.f203, 31, [.tmp 8]⟩ := by kernel_rfl
@[simp] theorem fb204 : fbody Tryz.prog 204 = some ⟨bodyOf Tryz.f204, 9, [.cell 4 32]⟩ := by kernel_rfl
@[simp] theorem fb205 : fbody Tryz.prog 205 = some ⟨bodyOf Tryz.f205, 30, [.cell 2 32, .tmp 3, .tmp 4]⟩ := by kernel_rfl
@[simp] theorem fb206 : fbody Tryz.prog 206 = some ⟨bodyOf Tryz.f206, 14, [.tmp 4]⟩ := by kernel_rfl
@[simp] theorem fb207 : fbody Tryz.prog 207 = some ⟨bodyOf Tryz.f207, 21, [.tmp 4]⟩ := by kernel_rfl
@[simp] theorem fb208 : fbody Tryz.prog 208 = some ⟨bodyOf Tryz.f208, 10, [.tmp 4]⟩ := by kernel_rfl
@[simp] theorem fb209 : fbody Tryz.prog 209 = some ⟨bodyOf Tryz.f209, 14, [.tmp 6]⟩ := by kernel_rfl
@[simp] theorem fb210 : fbody Tryz.prog 210 = some ⟨bodyOf Tryz.f210, 29, [.tmp 4]⟩ := by kernel_rfl
@[simp] theorem fb211 : fbody Tryz.prog 211 = some ⟨bodyOf Tryz.f211, 24, [.tmp 4]⟩ := by kernel_rfl
@[simp] theorem fb212 : fbody Tryz.prog 212 = some ⟨bodyOf Tryz.f212, 28, [.tmp 6]⟩ := by kernel_rfl
@[simp] theorem fb213 : fbody Tryz.prog 213 = some ⟨bodyOf Tryz.f213, 15, [.tmp 4]⟩ := by kernel_rfl
@[simp] theorem fb214 : fbody Tryz.prog 214 = some ⟨bodyOf Tryz.f214, 29, [.tmp 6]⟩ := by kernel_rfl
@[simp] theorem fb215 : fbody Tryz.prog 215 = some ⟨bodyOf Tryz.f215, 62, [.cell 4 32, .cell 5 34, .tmp 6, .cell 7 46]⟩ := by kernel_rfl
@[simp] theorem fb216 : fbody Tryz.prog 216 = some ⟨bodyOf Tryz.f216, 13, [.cell 6 34]⟩ := by kernel_rfl
@[simp] theorem fb217 : fbody Tryz.prog 217 = some ⟨bodyOf Tryz.f217, 11, [.tmp 4]⟩ := by kernel_rfl
@[simp] theorem fb218 : fbody Tryz.prog 218 = some ⟨bodyOf Tryz.f218, 38, [.cell 8 46]⟩ := by kernel_rfl
@[simp] theorem fb219 : fbody Tryz.prog 219 = some ⟨bodyOf Tryz.f219, 23, [.tmp 10]⟩ := by kernel_rfl
@[simp] theorem fb220 : fbody Tryz.prog 220 = some ⟨bodyOf Tryz.f220, 18, [.tmp 6]⟩ := by kernel_rfl
@[simp] theorem fb221 : fbody Tryz.prog 221 = some ⟨bodyOf Tryz.f221, 23, [.tmp 4]⟩ := by kernel_rfl
@[simp] theorem fb222 : fbody Tryz.prog 222 = some ⟨bodyOf Tryz.f222, 16, [.tmp 6]⟩ := by kernel_rfl
@[simp] theorem fb223 : fbody Tryz.prog 223 = some ⟨bodyOf Tryz.f223, 15, [.tmp 6]⟩ := by kernel_rfl
@[simp] theorem fb224 : fbody Tryz.prog 224 = some ⟨bodyOf Tryz.f224, 90, [.tmp 4]⟩ := by kernel_rfl
@[simp] theorem fb225 : fbody Tryz.prog 225 = some ⟨bodyOf Tryz.f225, 50, [.cell 4 32]⟩ := by kernel_rfl
@[simp] theorem fb226 : fbody Tryz.prog 226 = some ⟨bodyOf Tryz.f226, 39, [.tmp 6]⟩ := by kernel_rfl
@[simp] theorem fb227 : fbody Tryz.prog 227 = some ⟨bodyOf Tryz.f227, 31, [.cell 4 34]⟩ := by kernel_rfl
@[simp] theorem fb228 : fbody Tryz.prog 228 = some ⟨bodyOf Tryz.f228, 22, [.tmp 4]⟩ := by kernel_rfl
@[simp] theorem fb229 : fbody Tryz.prog 229 = some ⟨bodyOf Tryz.f229, 32, [.tmp 6]⟩ := by kernel_rfl
@[simp] theorem fb230 : fbody Tryz.prog 230 = some ⟨bodyOf Tryz.f230, 19, [.tmp 4]⟩ := by kernel_rfl
@[simp] theorem fb231 : fbody Tryz.prog 231 = some ⟨bodyOf Tryz.f231, 12, [.tmp 4]⟩ := by kernel_rfl
@[simp] theorem fb232 : fbody Tryz.prog 232 = some ⟨bodyOf Tryz.f232, 50, [.tmp 4, .tmp 5]⟩ := by kernel_rfl
@[simp] theorem fb233 : fbody Tryz.prog 233 = some ⟨bodyOf Tryz.f233, 75, [.tmp 9]⟩ := by kernel_rfl
@[simp] theorem fb234 : fbody Tryz.prog 234 = some ⟨bodyOf Tryz.f234, 24, [.tmp 4]⟩ := by kernel_rfl
@[simp] theorem fb235 : fbody Tryz.prog 235 = some ⟨bodyOf Tryz.f235, 19, [.tmp 6]⟩ := by kernel_rfl
@[simp] theorem fb236 : fbody Tryz.prog 236 = some ⟨bodyOf Tryz.f236, 61, [.tmp 4, .tmp 5]⟩ := by kernel_rfl
@[simp] theorem fb237 : fbody Tryz.prog 237 = some ⟨bodyOf Tryz.f237, 11, [.cell 4 46]⟩ := by kernel_rfl
@[simp] theorem fb238 : fbody Tryz.prog 238 = some ⟨bodyOf Tryz.f238, 40, [.tmp 10, .tmp 11]⟩ := by kernel_rfl
@[simp] theorem fb239 : fbody Tryz.prog 239 = some ⟨bodyOf Tryz.f239, 14, [.tmp 4]⟩ := by kernel_rfl
@[simp] theorem fb240 : fbody Tryz.prog 240 = some ⟨bodyOf Tryz.f240, 45, [.cell 8 46]⟩ := by kernel_rfl
@[simp] theorem fb241 : fbody Tryz.prog 241 = some ⟨bodyOf Tryz.f241, 20, [.tmp 6]⟩ := by kernel_rfl
@[simp] theorem fb242 : fbody Tryz.prog 242 = some ⟨bodyOf Tryz.f242, 51, [.tmp 6]⟩ := by kernel_rfl
@[simp] theorem fb243 : fbody Tryz.prog 243 = some ⟨bodyOf Tryz.f243, 22, [.tmp 2]⟩ := by kernel_rfl
@[simp] theorem fb244 : fbody Tryz.prog 244 = some ⟨bodyOf Tryz.f244, 9, [.tmp 2]⟩ := by kernel_rfl
@[simp] theorem fb245 : fbody Tryz.prog 245 = some ⟨bodyOf Tryz.f245, 46, [.tmp 2]⟩ := by kernel_rfl
@[simp] theorem fb246 : fbody Tryz.prog 246 = some ⟨bodyOf Tryz.f246, 27, [.tmp 4]⟩ := by kernel_rfl
@[simp] theorem fb247 : fbody Tryz.prog 247 = some ⟨bodyOf Tryz.f247, 16, [.tmp 4]⟩ := by kernel_rfl
@[simp] theorem fb248 : fbody Tryz.prog 248 = some ⟨bodyOf Tryz.f248, 77, [.tmp 6, .tmp 7, .tmp 8]⟩ := by kernel_rfl
@[simp] theorem fb249 : fbody Tryz.prog 249 = some ⟨bodyOf Tryz.f249, 37, [.cell 6 46]⟩ := by kernel_rfl
@[simp] theorem fb250 : fbody Tryz.prog 250 = some ⟨bodyOf Tryz.f250, 147, []⟩ := by kernel_rfl
@[simp] theorem fb251 : fbody Tryz.prog 251 = some ⟨bodyOf Tryz.f251, 36, [.tmp 4]⟩ := by kernel_rfl
@[simp] theorem fb252 : fbody Tryz.prog 252 = some ⟨bodyOf Tryz.f252, 9, [.tmp 4]⟩ := by kernel_rfl
@[simp] theorem fb253 : fbody Tryz.prog 253 = some ⟨bodyOf Tryz.f253, 10, [.tmp 4]⟩ := by kernel_rfl
@[simp] theorem fb254 : fbody Tryz.prog 254 = some ⟨bodyOf Tryz.f254, 26, [.cell 6 34]⟩ := by kernel_rfl
@[simp] theorem fb255 : fbody Tryz.prog 255 = some ⟨bodyOf Tryz.f255, 12, [.tmp 4]⟩ := by kernel_rfl
@[simp] theorem fb256 : fbody Tryz.prog 256 = some ⟨bodyOf Tryz.f256, 140, []⟩ := by kernel_rfl
@[simp] theorem fb257 : fbody Tryz.prog 257 = some ⟨bodyOf Tryz.f257, 12, [.cell 4 46]⟩ := by kernel_rfl
@[simp] theorem fb258 : fbody Tryz.prog 258 = some ⟨bodyOf Tryz.f258, 7, [.tmp 3]⟩ := by kernel_rfl
@[simp] theorem fb259 : fbody Tryz.prog 259 = some ⟨bodyOf Tryz.f259, 7, [.tmp 3]⟩ := by kernel_rfl
@[simp] theorem fb260 : fbody Tryz.prog 260 = some ⟨bodyOf Tryz.f260, 7, [.tmp 3]⟩ := by kernel_rfl
@[simp] theorem fb261 : fbody Tryz.prog 261 = some ⟨bodyOf Tryz.f261, 9, [.tmp 2]⟩ := by kernel_rfl
@[simp] theorem fb262 : fbody Tryz.prog 262 = some ⟨bodyOf Tryz.f262, 85, [.tmp 8]⟩ := by kernel_rfl
@[simp] theorem fb263 : fbody Tryz.prog 263 = some ⟨bodyOf Tryz.f263, 41, [.tmp 10]⟩ := by kernel_rfl
@[simp] theorem fb264 : fbody Tryz.prog 264 = some ⟨bodyOf Tryz.f264, 23, [.tmp 4]⟩ := by kernel_rfl
@[simp] theorem fb265 : fbody Tryz.prog 265 = some ⟨bodyOf Tryz.f265, 11, [.tmp 5]⟩ := by kernel_rfl
@[simp] theorem fb266 : fbody Tryz.prog 266 = some ⟨bodyOf Tryz.f266, 79, [.tmp 8]⟩ := by kernel_rfl
@[simp] theorem fb267 : fbody Tryz.prog 267 = some ⟨bodyOf Tryz.f267, 17, [.tmp 6]⟩ := by kernel_rfl
@[simp] theorem fb268 : fbody Tryz.prog 268 = some ⟨bodyOf Tryz.f268, 51, [.tmp 6, .tmp 7]⟩ := by kernel_rfl
@[simp] theorem fb269 : fbody Tryz.prog 269 = some ⟨bodyOf Tryz.f269, 55, [.tmp 4]⟩ := by kernel_rfl
@[simp] theorem fb270 : fbody Tryz.prog 270 = some ⟨bodyOf Tryz.f270, 36, [.tmp 2]⟩ := by kernel_rfl
@[simp] theorem fb271 : fbody Tryz.prog 271 = some ⟨bodyOf Tryz.f271, 16, [.tmp 4]⟩ := by kernel_rfl
@[simp] theorem fb272 : fbody Tryz.prog 272 = some ⟨bodyOf Tryz.f272, 10, [.tmp 4]⟩ := by kernel_rfl
@[simp] theorem fb273 : fbody Tryz.prog 273 = some ⟨bodyOf Tryz.f273, 11, [.cell 4 46]⟩ := by kernel_rfl
@[simp] theorem fb274 : fbody Tryz.prog 274 = some ⟨bodyOf Tryz.f274, 23, [.cell 4 34]⟩ := by kernel_rfl
@[simp] theorem fb275 : fbody Tryz.prog 275 = some ⟨bodyOf Tryz.f275, 10, [.tmp 4]⟩ := by kernel_rfl
@[simp] theorem fb276 : fbody Tryz.prog 276 = some ⟨bodyOf Tryz.f276, 10, [.tmp 3]⟩ := by kernel_rfl
@[simp] theorem fb277 : fbody Tryz.prog 277 = some ⟨bodyOf Tryz.f277, 9, [.tmp 4]⟩ := by kernel_rfl
@[simp] theorem fb278 : fbody Tryz.prog 278 = some ⟨bodyOf Tryz.f278, 5, [.tmp 2]⟩ := by kernel_rfl
@[simp] theorem fb279 : fbody Tryz.prog 279 = some ⟨bodyOf Tryz.f279, 19, [.tmp 4]⟩ := by kernel_rfl
@[simp] theorem fb280 : fbody Tryz.prog 280 = some ⟨bodyOf Tryz.f280, 11, []⟩ := by kernel_rfl
@[simp] theorem fb281 : fbody Tryz.prog 281 = some ⟨bodyOf Tryz.f281, 132, [.tmp 6]⟩ := by kernel_rfl
@[simp] theorem fb282 : fbody Tryz.prog 282 = some ⟨bodyOf Tryz.f282, 15, [.tmp 2]⟩ := by kernel_rfl
@[simp] theorem fb283 : fbody Tryz.prog 283 = some ⟨bodyOf Tryz.f283, 74, [.tmp 4]⟩ := by kernel_rfl
@[simp] theorem fb284 : fbody Tryz.prog 284 = some ⟨bodyOf Tryz.f284, 48, [.tmp 4]⟩ := by kernel_rfl
@[simp] theorem fb285 : fbody Tryz.prog 285 = some ⟨bodyOf Tryz.f285, 14, [.tmp 4]⟩ := by kernel_rfl
@[simp] theorem fb286 : fbody Tryz.prog 286 = some ⟨bodyOf Tryz.f286, 57, [.cell 2 32, .tmp 3]⟩ := by kernel_rfl
@[simp] theorem fb287 : fbody Tryz.prog 287 = some ⟨bodyOf Tryz.f287, 51, [.tmp 4, .tmp 5]⟩ := by kernel_rfl
@[simp] theorem fb288 : fbody Tryz.prog 288 = some ⟨bodyOf Tryz.f288, 8, [.tmp 2]⟩ := by kernel_rfl
@[simp] theorem fb289 : fbody Tryz.prog 289 = some ⟨bodyOf Tryz.f289, 26, [.cell 2 32]⟩ := by kernel_rfl
@[simp] theorem fb290 : fbody Tryz.prog 290 = some ⟨bodyOf Tryz.f290, 6, [.tmp 2]⟩ := by kernel_rfl
@[simp] theorem fb291 : fbody Tryz.prog 291 = some ⟨bodyOf Tryz.f291, 49, [.cell 4 32]⟩ := by kernel_rfl
@[simp] theorem fb292 : fbody Tryz.prog 292 = some ⟨bodyOf Tryz.f292, 28, [.tmp 4]⟩ := by kernel_rfl
@[simp] theorem fb293 : fbody Tryz.prog 293 = some ⟨bodyOf Tryz.f293, 28, [.cell 2 32]⟩ := by kernel_rfl
@[simp] theorem fb294 : fbody Tryz.prog 294 = some ⟨bodyOf Tryz.f294, 55, [.tmp 2]⟩ := by kernel_rfl
@[simp] theorem fb295 : fbody Tryz.prog 295 = some ⟨bodyOf Tryz.f295, 20, [.tmp 2]⟩ := by kernel_rfl
@[simp] theorem fb296 : fbody Tryz.prog 296 = some ⟨bodyOf Tryz.f296, 10, [.tmp 4]⟩ := by kernel_rfl
@[simp] theorem fb297 : fbody Tryz.prog 297 = some ⟨bodyOf Tryz.f297, 31, [.tmp 4]⟩ := by kernel_rfl
@[simp] theorem fb298 : fbody Tryz.prog 298 = some ⟨bodyOf Tryz.f298, 35, [.cell 4 32]⟩ := by kernel_rfl
@[simp] theorem fb299 : fbody Tryz.prog 299 = some ⟨bodyOf Tryz.f299, 22, [.tmp 7]⟩ := by kernel_rfl
@[simp] theorem fb300 : fbody Tryz.prog 300 = some ⟨bodyOf Tryz.f300, 12, [.cell 6 34]⟩ := by kernel_rfl
@[simp] theorem fb301 : fbody Tryz.prog 301 = some ⟨bodyOf Tryz.f301, 12, [.tmp 5]⟩ := by kernel_rfl
@[simp] theorem fb302 : fbody Tryz.prog 302 = some ⟨bodyOf Tryz.f302, 8, [.tmp 3]⟩ := by kernel_rfl
@[simp] theorem fb303 : fbody Tryz.prog 303 = some ⟨bodyOf Tryz.f303, 23, [.tmp 4]⟩ := by kernel_rfl
@[simp] theorem fb304 : fbody Tryz.prog 304 = some ⟨bodyOf Tryz.f304, 30, [.tmp 4]⟩ := by kernel_rfl
@[simp] theorem fb305 : fbody Tryz.prog 305 = some ⟨bodyOf Tryz.f305, 20, [.tmp 6]⟩ := by kernel_rfl
@[simp] theorem fb306 : fbody Tryz.prog 306 = some ⟨bodyOf Tryz.f306, 26, [.tmp 4]⟩ := by kernel_rfl
@[simp] theorem fb307 : fbody Tryz.prog 307 = some ⟨bodyOf Tryz.f307, 43, [.tmp 4]⟩ := by kernel_rfl
@[simp] theorem fb308 : fbody Tryz.prog 308 = some ⟨bodyOf Tryz.f308, 9, [.tmp 4]⟩ := by kernel_rfl
@[simp] theorem fb309 : fbody Tryz.prog 309 = some ⟨bodyOf Tryz.f309, 18, [.tmp 4]⟩ := by kernel_rfl
@[simp] theorem fb310 : fbody Tryz.prog 310 = some ⟨bodyOf Tryz.f310, 95, [.tmp 6]⟩ := by kernel_rfl
@[simp] theorem fb311 : fbody Tryz.prog 311 = some ⟨bodyOf Tryz.f311, 32, [.tmp 6]⟩ := by kernel_rfl
@[simp] theorem fb312 : fbody Tryz.prog 312 = some ⟨bodyOf Tryz.f312, 26, [.tmp 4]⟩ := by kernel_rfl
@[simp] theorem fb313 : fbody Tryz.prog 313 = some ⟨bodyOf Tryz.f313, 17, [.tmp 4]⟩ := by kernel_rfl
@[simp] theorem fb314 : fbody Tryz.prog 314 = some ⟨bodyOf Tryz.f314, 20, [.tmp 6]⟩ := by kernel_rfl
@[simp] theorem fb315 : fbody Tryz.prog 315 = some ⟨bodyOf Tryz.f315, 49, [.tmp 6]⟩ := by kernel_rfl
@[simp] theorem fb316 : fbody Tryz.prog 316 = some ⟨bodyOf Tryz.f316, 36, [.tmp 4]⟩ := by kernel_rfl
@[simp] theorem fb317 : fbody Tryz.prog 317 = some ⟨bodyOf Tryz.f317, 9, [.tmp 4]⟩ := by kernel_rfl
@[simp] theorem fb318 : fbody Tryz.prog 318 = some ⟨bodyOf Tryz.f318, 14, []⟩ := by kernel_rfl
@[simp] theorem fb319 : fbody Tryz.prog 319 = some ⟨bodyOf Tryz.f319, 66, [.tmp 4]⟩ := by kernel_rfl
@[simp] theorem fb320 : fbody Tryz.prog 320 = some ⟨bodyOf Tryz.f320, 6, [.tmp 2]⟩ := by kernel_rfl
@[simp] theorem fb321 : fbody Tryz.prog 321 = some ⟨bodyOf Tryz.f321, 25, [.tmp 6]⟩ := by kernel_rfl
@[simp] theorem fb322 : fbody Tryz.prog 322 = some ⟨bodyOf Tryz.f322, 58, [.tmp 6]⟩ := by kernel_rfl
@[simp] theorem fb323 : fbody Tryz.prog 323 = some ⟨bodyOf Tryz.f323, 40, [.tmp 6]⟩ := by kernel_rfl
@[simp] theorem fb324 : fbody Tryz.prog 324 = some ⟨bodyOf Tryz.f324, 43, [.tmp 4, .tmp 5, .tmp 6]⟩ := by kernel_rfl
@[simp] theorem fb325 : fbody Tryz.prog 325 = some ⟨bodyOf Tryz.f325, 19, [.tmp 4]⟩ := by kernel_rfl
@[simp] theorem fb326 : fbody Tryz.prog 326 = some ⟨bodyOf Tryz.f326, 5, [.tmp 2]⟩ := by kernel_rfl
@[simp] theorem fb327 : fbody Tryz.prog 327 = some ⟨bodyOf Tryz.f327, 54, [.tmp 10]⟩ := by kernel_rfl
@[simp] theorem fb328 : fbody Tryz.prog 328 = some ⟨bodyOf Tryz.f328, 55, [.tmp 6, .tmp 7, .tmp 8]⟩ := by kernel_rfl
@[simp] theorem fb329 : fbody Tryz.prog 329 = some ⟨bodyOf Tryz.f329, 77, [.tmp 4]⟩ := by kernel_rfl
@[simp] theorem fb330 : fbody Tryz.prog 330 = some ⟨bodyOf Tryz.f330, 36, [.tmp 2]⟩ := by kernel_rfl
@[simp] theorem fb331 : fbody Tryz.prog 331 = some ⟨bodyOf Tryz.f331, 42, [.tmp 4]⟩ := by kernel_rfl
@[simp] theorem fb332 : fbody Tryz.prog 332 = some ⟨bodyOf Tryz.f332, 16, [.tmp 2]⟩ := by kernel_rfl
@[simp] theorem fb333 : fbody Tryz.prog 333 = some ⟨bodyOf Tryz.f333, 8, [.tmp 3]⟩ := by kernel_rfl
@[simp] theorem fb334 : fbody Tryz.prog 334 = some ⟨bodyOf Tryz.f334, 134, []⟩ := by kernel_rfl
@[simp] theorem fb335 : fbody Tryz.prog 335 = some ⟨bodyOf Tryz.f335, 8, [.tmp 2]⟩ := by kernel_rfl
@[simp] theorem fb336 : fbody Tryz.prog 336 = some ⟨bodyOf Tryz.f336, 104, [.tmp 6]⟩ := by kernel_rfl
@[simp] theorem fb337 : fbody Tryz.prog 337 = some ⟨bodyOf Tryz.f337, 103, [.tmp 4]⟩ := by kernel_rfl
@[simp] theorem fb338 : fbody Tryz.prog 338 = some ⟨bodyOf Tryz.f338, 396, [.tmp 6]⟩ := by kernel_rfl
@[simp] theorem fb339 : fbody Tryz.prog 339 = some ⟨bodyOf Tryz.f339, 5, [.tmp 2]⟩ := by kernel_rfl
@[simp] theorem fb340 : fbody Tryz.prog 340 = some ⟨bodyOf Tryz.f340, 30, [.tmp 4, .tmp 5]⟩ := by kernel_rfl
@[simp] theorem fb341 : fbody Tryz.prog 341 = some ⟨bodyOf Tryz.f341, 35, [.cell 2 32]⟩ := by kernel_rfl
@[simp] theorem fb342 : fbody Tryz.prog 342 = some ⟨bodyOf Tryz.f342, 68, [.cell 4 32]⟩ := by kernel_rfl
@[simp] theorem fb343 : fbody Tryz.prog 343 = some ⟨bodyOf Tryz.f343, 75, [.cell 4 32]⟩ := by kernel_rfl
@[simp] theorem fb344 : fbody Tryz.prog 344 = some ⟨bodyOf Tryz.f344, 30, [.tmp 4]⟩ := by kernel_rfl
@[simp] theorem fb345 : fbody Tryz.prog 345 = some ⟨bodyOf Tryz.f345, 2, [.tmp 0]⟩ := by kernel_rfl
@[simp] theorem fb346 : fbody Tryz.prog 346 = some ⟨bodyOf Tryz.f346, 51, [.tmp 4]⟩ := by kernel_rfl
@[simp] theorem fb347 : fbody Tryz.prog 347 = some ⟨bodyOf Tryz.f347, 40, [.tmp 4]⟩ := by kernel_rfl
@[simp] theorem fb348 : fbody Tryz.prog 348 = some ⟨bodyOf Tryz.f348, 95, [.tmp 8]⟩ := by kernel_rfl
@[simp] theorem fb349 : fbody Tryz.prog 349 = some ⟨bodyOf Tryz.f349, 13, [.tmp 4]⟩ := by kernel_rfl
@[simp] theorem fb350 : fbody Tryz.prog 350 = some ⟨bodyOf Tryz.f350, 18, [.tmp 6]⟩ := by kernel_rfl
@[simp] theorem fb351 : fbody Tryz.prog 351 = some ⟨bodyOf Tryz.f351, 20, [.tmp 4]⟩ := by kernel_rfl
@[simp] theorem fb352 : fbody Tryz.prog 352 = some ⟨bodyOf Tryz.f352, 16, [.tmp 4]⟩ := by kernel_rfl
@[simp] theorem fb353 : fbody Tryz.prog 353 = some ⟨bodyOf Tryz.f353, 148, []⟩ := by kernel_rfl
@[simp] theorem fb354 : fbody Tryz.prog 354 = some ⟨bodyOf Tryz.f354, 10, [.tmp 3]⟩ := by kernel_rfl
@[simp] theorem fb355 : fbody Tryz.prog 355 = some ⟨bodyOf Tryz.f355, 16, [.tmp 4]⟩ := by kernel_rfl
@[simp] theorem fb356 : fbody Tryz.prog 356 = some ⟨bodyOf Tryz.f356, 12, [.tmp 4]⟩ := by kernel_rfl
@[simp] theorem fb357 : fbody Tryz.prog 357 = some ⟨bodyOf Tryz.f357, 18, [.tmp 4]⟩ := by kernel_rfl
@[simp] theorem fb358 : fbody Tryz.prog 358 = some ⟨bodyOf Tryz.f358, 27, [.tmp 4]⟩ := by kernel_rfl
@[simp] theorem fb359 : fbody Tryz.prog 359 = some ⟨bodyOf Tryz.f359, 49, []⟩ := by kernel_rfl
@[simp] theorem fb360 : fbody Tryz.prog 360 = some ⟨bodyOf Tryz.f360, 56, []⟩ := by kernel_rfl
@[simp] theorem fb361 : fbody Tryz.prog 361 = some ⟨bodyOf Tryz.f361, 65, []⟩ := by kernel_rfl
@[simp] theorem fb362 : fbody Tryz.prog 362 = some ⟨bodyOf Tryz.f362, 57, [.tmp 6, .tmp 7]⟩ := by kernel_rfl
@[simp] theorem fb363 : fbody Tryz.prog 363 = some ⟨bodyOf Tryz.f363, 32, []⟩ := by kernel_rfl
@[simp] theorem fb364 : fbody Tryz.prog 364 = some ⟨bodyOf Tryz.f364, 133, [.tmp 6]⟩ := by kernel_rfl
@[simp] theorem fb365 : fbody Tryz.prog 365 = some ⟨bodyOf Tryz.f365, 17, [.tmp 4]⟩ := by kernel_rfl
@[simp] theorem fb366 : fbody Tryz.prog 366 = some ⟨bodyOf Tryz.f366, 84, [.tmp 8]⟩ := by kernel_rfl
@[simp] theorem fb367 : fbody Tryz.prog 367 = some ⟨bodyOf Tryz.f367, 168, [.tmp 8, .tmp 9]⟩ := by kernel_rfl
@[simp] theorem fb368 : fbody Tryz.prog 368 = some ⟨bodyOf Tryz.f368, 19, [.tmp 2]⟩ := by kernel_rfl
@[simp] theorem fb369 : fbody Tryz.prog 369 = some ⟨bodyOf Tryz.f369, 25, [.tmp 2]⟩ := by kernel_rfl
@[simp] theorem fb370 : fbody Tryz.prog 370 = some ⟨bodyOf Tryz.f370, 254, [.tmp 10]⟩ := by kernel_rfl
@[simp] theorem fb371 : fbody Tryz.prog 371 = some ⟨bodyOf Tryz.f371, 8, [.tmp 3]⟩ := by kernel_rfl
@[simp] theorem fb372 : fbody Tryz.prog 372 = some ⟨bodyOf Tryz.f372, 17, [.tmp 4, .tmp 5]⟩ := by kernel_rfl
@[simp] theorem fb373 : fbody Tryz.prog 373 = some ⟨bodyOf Tryz.f373, 51, [.tmp 4, .tmp 5]⟩ := by kernel_rfl
@[simp] theorem fb374 : fbody Tryz.prog 374 = some ⟨bodyOf Tryz.f374, 6, [.tmp 2]⟩ := by kernel_rfl
@[simp] theorem fb375 : fbody Tryz.prog 375 = some ⟨bodyOf Tryz.f375, 53, []⟩ := by kernel_rfl
@[simp] theorem fb376 : fbody Tryz.prog 376 = some ⟨bodyOf Tryz.f376, 60, []⟩ := by kernel_rfl
@[simp] theorem fb377 : fbody Tryz.prog 377 = some ⟨bodyOf Tryz.f377, 67, []⟩ := by kernel_rfl
@[simp] theorem fb378 : fbody Tryz.prog 378 = some ⟨bodyOf Tryz.f378, 63, [.tmp 8, .tmp 9]⟩ := by kernel_rfl
@[simp] theorem fb379 : fbody Tryz.prog 379 = some ⟨bodyOf Tryz.f379, 34, []⟩ := by kernel_rfl
@[simp] theorem fb380 : fbody Tryz.prog 380 = some ⟨bodyOf Tryz.f380, 141, [.tmp 8]⟩ := by kernel_rfl
@[simp] theorem fb381 : fbody Tryz.prog 381 = some ⟨bodyOf Tryz.f381, 90, [.tmp 10]⟩ := by kernel_rfl
@[simp] theorem fb382 : fbody Tryz.prog 382 = some ⟨bodyOf Tryz.f382, 178, [.tmp 10, .tmp 11]⟩ := by kernel_rfl
@[simp] theorem fb383 : fbody Tryz.prog 383 = some ⟨bodyOf Tryz.f383, 76, []⟩ := by kernel_rfl
@[simp] theorem fb384 : fbody Tryz.prog 384 = some ⟨bodyOf Tryz.f384, 7, [.tmp 2]⟩ := by kernel_rfl
@[simp] theorem fb385 : fbody Tryz.prog 385 = some ⟨bodyOf Tryz.f385, 33, [.tmp 2]⟩ := by kernel_rfl
@[simp] theorem fb386 : fbody Tryz.prog 386 = some ⟨bodyOf Tryz.f386, 15, [.tmp 6]⟩ := by kernel_rfl
@[simp] theorem fb387 : fbody Tryz.prog 387 = some ⟨bodyOf Tryz.f387, 36, [.tmp 10]⟩ := by kernel_rfl
@[simp] theorem fb388 : fbody Tryz.prog 388 = some ⟨bodyOf Tryz.f388, 82, []⟩ := by kernel_rfl
@[simp] theorem fb389 : fbody Tryz.prog 389 = some ⟨bodyOf Tryz.f389, 18, [.tmp 8]⟩ := by kernel_rfl
@[simp] theorem fb390 : fbody Tryz.prog 390 = some ⟨bodyOf Tryz.f390, 41, [.tmp 12]⟩ := by kernel_rfl
@[simp] theorem fb391 : fbody Tryz.prog 391 = some ⟨bodyOf Tryz.f391, 28, [.tmp 8, .tmp 9]⟩ := by kernel_rfl
@[simp] theorem fb392 : fbody Tryz.prog 392 = some ⟨bodyOf Tryz.f392, 32, [.tmp 10, .tmp 11]⟩ := by kernel_rfl
def annL : List (Nat × FAnn) := [
  (3, { own := [], keep := [] }),
  (4, { own := [], keep := [] }),
  (5, { own := [], keep := [] }),
  (6, { own := [], keep := [] }),
  (7, { own := [], keep := [] }),
  (8, { own := [], keep := [] }),
  (9, { own := [], keep := [(31, [3, 4, 6, 10, 14, 18, 28], [48, 592, 593, 594, 595, 720, 721, 722, 723, 1440, 1441, 1442, 1443, 1808, 1809, 1810, 1811]), (34, [3, 4, 6, 10, 14, 18, 28, 29], [48, 592, 593, 594, 595, 720, 721, 722, 723, 1440, 1441, 1442, 1443, 1808, 1809, 1810, 1811]), (40, [14, 18, 30, 31], [1440, 1441, 1442, 1443, 1808, 1809, 1810, 1811]), (44, [14, 18, 30, 31, 32], [1440, 1441, 1442, 1443, 1808, 1809, 1810, 1811])] }),
  (10, { own := [], keep := [] }),
  (11, { own := [], keep := [] }),
  (12, { own := [], keep := [] }),
  (13, { own := [], keep := [] }),
  (14, { own := [], keep := [] }),
  (15, { own := [], dat := [67, 74, 81, 89], keep := [(18, [2, 3, 4, 5, 11, 15, 16, 17, 18, 19, 20, 22, 23, 24, 25], [64, 80, 1072, 1073, 1074, 1075, 1184, 1185, 1186, 1187, 1296, 1297, 1298, 1299, 1424, 1425, 1426, 1427, 1472, 1488, 1504, 1872, 2144, 2464])] }),
  (16, { own := [], keep := [] }),
  (17, { own := [], keep := [] }),
  (18, { own := [], keep := [] }),
  (19, { own := [], keep := [(4, [0, 1, 5], [])] }),
  (20, { own := [], keep := [] }),
  (21, { own := [], keep := [] }),
  (22, { own := [], keep := [] }),
  (23, { own := [], keep := [] }),
  (24, { own := [], keep := [(2, [0, 1, 5], [100000, 100001, 100002])] }),
  (25, { own := [], keep := [(2, [0, 1, 5], [])] }),
  (26, { own := [], keep := [] }),
  (27, { own := [], keep := [] }),
  (28, { own := [], keep := [] }),
  (29, { own := [], keep := [] }),
  (30, { own := [], keep := [] }),
  (31, { own := [], keep := [] }),
  (32, { own := [], keep := [] }),
  (33, { own := [], keep := [] }),
  (34, { own := [], keep := [] }),
  (35, { own := [], keep := [] }),
  (36, { own := [], keep := [] }),
  (37, { own := [], keep := [] }),
  (38, { own := [], keep := [] }),
  (39, { own := [], keep := [] }),
  (40, { own := [], keep := [] }),
  (41, { own := [], keep := [] }),
  (42, { own := [], keep := [] }),
  (43, { own := [], keep := [] }),
  (44, { own := [], keep := [(3, [0, 3, 4], [])] }),
  (45, { own := [], keep := [] }),
  (46, { own := [], keep := [] }),
  (47, { own := [], keep := [] }),
  (48, { own := [], keep := [(4, [0, 1, 5], [])] }),
  (49, { own := [], keep := [] }),
  (50, { own := [], keep := [] }),
  (51, { own := [], keep := [(6, [3, 9, 10, 11, 12], [48, 400, 401, 402, 403, 416, 1056]), (11, [3, 9, 10, 11, 12, 13, 14], [48, 400, 401, 402, 403, 416, 1056])] }),
  (52, { own := [], keep := [] }),
  (53, { own := [], keep := [] }),
  (54, { own := [], keep := [(4, [0, 1, 5], [])] }),
  (55, { own := [], keep := [] }),
  (56, { own := [], keep := [] }),
  (57, { own := [], keep := [(2, [0, 1, 5], [100000, 100001, 100002])] }),
  (58, { own := [], keep := [(2, [0, 1, 5], [])] }),
  (59, { own := [], keep := [] }),
  (60, { own := [], keep := [] }),
  (61, { own := [18], keep := [(6, [4, 5, 6, 7, 8], [224, 225, 226, 227, 272, 273, 274, 275, 288, 768])] }),
  (62, { own := [21, 30], keep := [(8, [4, 5, 6, 31, 32, 33], [432, 433, 434, 435, 464, 465, 466, 467, 480, 496, 1152]), (12, [4, 5, 6, 9, 31, 32, 33, 42, 43, 44], [432, 433, 434, 435, 464, 465, 466, 467, 480, 496, 624, 625, 626, 627, 672, 673, 674, 675, 912, 913, 914, 915, 1152]), (19, [4, 5, 6, 31, 32, 33, 59, 60, 61], [432, 433, 434, 435, 464, 465, 466, 467, 480, 496, 624, 625, 626, 627, 912, 913, 914, 915, 1152])] }),
  (63, { own := [], keep := [] }),
  (64, { own := [], keep := [] }),
  (65, { own := [], keep := [] }),
  (66, { own := [], keep := [(4, [0, 1, 5], [])] }),
  (67, { own := [], keep := [(5, [1, 3, 5, 19, 20], [48, 80]), (8, [1, 3, 5, 9, 19, 20, 24, 25], [48, 80])] }),
  (68, { own := [], keep := [(5, [3, 5, 9], [48, 80]), (8, [3, 5, 9, 10], [48, 80])] }),
  (69, { own := [], keep := [] }),
  (70, { own := [], keep := [] }),
  (71, { own := [], keep := [] }),
  (72, { own := [], keep := [] }),
  (73, { own := [], keep := [(2, [0, 1, 5], [])] }),
  (74, { own := [], keep := [] }),
  (75, { own := [], keep := [(3, [0, 3, 4], [])] }),
  (76, { own := [], keep := [] }),
  (77, { own := [], keep := [] }),
  (78, { own := [], keep := [] }),
  (79, { own := [], keep := [] }),
  (80, { own := [], keep := [] }),
  (81, { own := [], keep := [] }),
  (82, { own := [], keep := [] }),
  (83, { own := [], keep := [] }),
  (84, { own := [], keep := [] }),
  (85, { own := [], keep := [] }),
  (86, { own := [], keep := [] }),
  (87, { own := [], keep := [] }),
  (88, { own := [], keep := [] }),
  (89, { own := [69], keep := [(14, [2, 4, 5, 6, 8, 10, 13, 14, 15, 16, 17], [80, 96, 128, 160, 208, 256, 816, 817, 818, 819, 1008, 1009, 1010, 1011, 1104, 1920]), (18, [2, 4, 5, 6, 8, 10, 13, 14, 15, 16, 17, 18, 19], [80, 96, 128, 160, 208, 256, 816, 817, 818, 819, 1008, 1009, 1010, 1011, 1104, 1312, 1313, 1314, 1315, 1920])] }),
  (90, { own := [], keep := [] }),
  (91, { own := [], keep := [] }),
  (92, { own := [], keep := [] }),
  (93, { own := [], keep := [] }),
  (94, { own := [], keep := [(12, [2, 4, 5, 7, 8, 11, 13, 14, 15, 16], [64, 80, 112, 128, 176, 240, 496, 497, 498, 499, 768, 769, 770, 771, 864, 865, 866, 867]), (16, [2, 4, 5, 7, 8, 11, 13, 14, 15, 16, 17, 18], [64, 80, 112, 128, 176, 240, 496, 497, 498, 499, 768, 769, 770, 771, 864, 865, 866, 867])] }),
  (95, { own := [], keep := [] }),
  (96, { own := [], keep := [] }),
  (97, { own := [], keep := [] }),
  (98, { own := [], keep := [] }),
  (99, { own := [], keep := [] }),
  (100, { own := [], keep := [] }),
  (101, { own := [], keep := [] }),
  (102, { own := [], keep := [] }),
  (103, { own := [], keep := [] }),
  (104, { own := [], keep := [] }),
  (105, { own := [], keep := [(11, [2, 3, 9, 10, 11, 46, 47, 48], [48, 688, 689, 690, 691])] }),
  (106, { own := [], keep := [(13, [2, 3, 9, 10, 11, 12], [48, 736, 737, 738, 739])] }),
  (107, { own := [], keep := [] }),
  (108, { own := [], keep := [] }),
  (109, { own := [], keep := [] }),
  (110, { own := [], keep := [] }),
  (111, { own := [], keep := [] }),
  (112, { own := [], keep := [(5, [0, 1, 5], [])] }),
  (113, { own := [], keep := [] }),
  (114, { own := [], keep := [] }),
  (115, { own := [], keep := [] }),
  (116, { own := [], keep := [] }),
  (117, { own := [8], keep := [(3, [1, 2, 4, 5, 6], [32, 64, 80, 128, 432])] }),
  (118, { own := [23], keep := [] }),
  (119, { own := [9], keep := [(3, [1, 2, 4, 5, 6], [32, 64, 80, 144, 448])] }),
  (120, { own := [9], keep := [(3, [1, 2, 4, 5, 6], [32, 64, 80, 144, 448])] }),
  (121, { own := [], keep := [(3, [2, 5, 8, 9, 10], [80, 128, 144, 224, 225, 226, 227])] }),
  (122, { own := [16], keep := [(3, [0, 1, 2, 7, 8, 9], [256]), (8, [0, 1, 2, 7, 8, 10], [256]), (13, [8, 11, 12, 13], [816, 817, 818, 819, 864, 865, 866, 867])] }),
  (123, { own := [], keep := [(3, [0, 3, 4], [112, 320, 321, 322, 323])] }),
  (124, { own := [], keep := [(3, [0, 3, 4], [112])] }),
  (125, { own := [], keep := [] }),
  (126, { own := [], keep := [] }),
  (127, { own := [], keep := [] }),
  (128, { own := [], dat := [28], keep := [(3, [2, 5, 13, 14, 31, 32, 33], [320, 321, 322, 323, 384, 385, 386, 387, 448, 449, 450, 451])] }),
  (129, { own := [], keep := [] }),
  (130, { own := [], keep := [] }),
  (131, { own := [], keep := [] }),
  (132, { own := [], keep := [] }),
  (133, { own := [], keep := [] }),
  (134, { own := [], keep := [] }),
  (135, { own := [], keep := [] }),
  (136, { own := [], keep := [] }),
  (137, { own := [], keep := [(2, [13, 14, 15], [192, 193, 194, 195])] }),
  (138, { own := [], keep := [] }),
  (139, { own := [], keep := [(2, [3, 4, 5, 7], [48, 64, 80])] }),
  (140, { own := [], keep := [(17, [4, 5, 7, 8, 9, 10, 11, 12, 13, 14, 16, 17, 18], [64, 80, 112, 144, 160, 208, 320, 321, 322, 323, 368, 369, 370, 371, 560, 816, 817, 818, 819, 1024, 1025, 1026, 1027, 1120, 1472, 1473, 1474, 1475, 1888, 1889, 1890, 1891])] }),
  (141, { own := [], keep := [(4, [2, 3, 4, 7], [48, 64])] }),
  (142, { own := [], keep := [(4, [3, 4, 14, 15, 16], [48, 64])] }),
  (143, { own := [], keep := [] }),
  (144, { own := [], keep := [(3, [0, 3, 4], [176])] }),
  (145, { own := [], keep := [] }),
  (146, { own := [], keep := [] }),
  (147, { own := [], keep := [] }),
  (148, { own := [], keep := [] }),
  (149, { own := [], keep := [] }),
  (150, { own := [], keep := [(4, [5, 6, 7, 16, 17, 18], [208, 209, 210, 211, 240, 241, 242, 243, 256]), (8, [5, 6, 7, 9, 10, 16, 17, 18, 23, 24], [208, 209, 210, 211, 240, 241, 242, 243, 256]), (13, [5, 6, 7, 9, 16, 17, 18, 43, 44], [208, 209, 210, 211, 240, 241, 242, 243, 256])] }),
  (151, { own := [], dat := [38], keep := [(5, [2, 3, 4, 7, 22, 23], [48, 64, 240, 241, 242, 243])] }),
  (152, { own := [], keep := [] }),
  (153, { own := [16], keep := [(3, [7, 8, 9], [240, 241, 242, 243, 256, 704]), (7, [7, 8, 9, 10, 11], [240, 241, 242, 243, 256, 704])] }),
  (154, { own := [], keep := [] }),
  (155, { own := [], keep := [] }),
  (156, { own := [5], keep := [(3, [0, 3, 4], [80, 304])] }),
  (157, { own := [], keep := [] }),
  (158, { own := [], keep := [] }),
  (159, { own := [], keep := [(5, [0, 1, 5, 6], [100000, 100001, 100002])] }),
  (160, { own := [22], keep := [(3, [1, 3, 4, 14, 15], [16, 144, 192, 800]), (8, [1, 3, 4, 5, 6, 14, 15, 24, 25], [16, 144, 192, 352, 688, 800])] }),
  (161, { own := [], keep := [] }),
  (162, { own := [], keep := [] }),
  (163, { own := [], keep := [(5, [1, 3, 4], [16]), (10, [1, 3, 4, 5], [16]), (15, [1, 3, 6], [16]), (21, [1, 3, 6, 7, 8], [16]), (25, [1, 3, 6, 7, 8, 9], [16])] }),
  (164, { own := [8], keep := [] }),
  (165, { own := [], keep := [(5, [1, 3, 18, 19, 20], [16]), (11, [1, 3, 35, 36], [16]), (16, [1, 3, 6, 35, 36, 68, 69], [16]), (19, [1, 3, 6, 7, 35, 36, 68, 69, 72, 73], [16])] }),
  (166, { own := [6], keep := [] }),
  (167, { own := [9], keep := [(3, [0, 3, 4], [144, 656]), (7, [0, 3, 4, 5, 6], [144, 656]), (10, [0, 3, 4, 5, 6, 7], [144, 656]), (16, [0, 3, 4, 5, 6, 7, 8], [144, 656])] }),
  (168, { own := [13, 18], keep := [(3, [0, 3, 4], [208, 1376]), (7, [0, 3, 4, 5, 6], [208, 288, 768, 1376]), (10, [0, 3, 4, 5, 6, 7], [208, 288, 768, 1376]), (15, [0, 3, 4, 5, 6, 7, 8], [208, 288, 768, 1376]), (20, [0, 3, 4, 5, 9], [208, 288, 768, 1376]), (26, [3, 10, 11], [208, 1376])] }),
  (169, { own := [], keep := [] }),
  (170, { own := [], keep := [] }),
  (171, { own := [], keep := [] }),
  (172, { own := [9], keep := [(3, [0, 5, 10, 11, 12], [144, 416])] }),
  (173, { own := [], keep := [(2, [0, 1, 7, 8], [])] }),
  (174, { own := [], keep := [] }),
  (175, { own := [], keep := [(1, [0, 2, 3], [])] }),
  (176, { own := [44], keep := [(16, [2, 4, 5, 6, 7, 8, 10, 11, 12], [32, 64, 96, 128, 240, 241, 242, 243, 272, 273, 274, 275, 368, 369, 370, 371, 528, 529, 530, 531, 704, 768, 769, 770, 771, 832, 833, 834, 835, 912, 1264, 1265, 1266, 1267, 1824, 1825, 1826, 1827])] }),
  (177, { own := [18], keep := [(3, [1, 3, 5, 7, 14, 15], [48, 80, 192, 784]), (7, [1, 3, 5, 7, 8, 9, 14, 15, 20, 21], [48, 80, 192, 288, 704, 784])] }),
  (178, { own := [18], keep := [(3, [1, 3, 5, 7, 8], [48, 80, 176, 1056]), (7, [1, 3, 5, 7, 8, 9, 10], [48, 80, 176, 288, 704, 992, 1056])] }),
  (179, { own := [], keep := [] }),
  (180, { own := [], keep := [(3, [2, 3, 4, 7, 8], [48, 64])] }),
  (181, { own := [], keep := [] }),
  (182, { own := [], keep := [(5, [2, 3, 4, 19, 20, 21], [48, 64]), (13, [3, 4, 40, 41, 42], [48, 64])] }),
  (183, { own := [], keep := [] }),
  (184, { own := [], keep := [] }),
  (185, { own := [], keep := [] }),
  (186, { own := [], keep := [] }),
  (187, { own := [], keep := [] }),
  (188, { own := [], keep := [] }),
  (189, { own := [], keep := [(3, [1, 2, 5, 6], [32]), (6, [1, 2, 5, 6, 7], [32])] }),
  (190, { own := [26], keep := [(4, [2, 4, 6, 7, 8, 9], [32, 64, 128, 240, 241, 242, 243, 288, 912]), (8, [2, 4, 6, 7, 8, 9, 10, 11], [32, 64, 128, 240, 241, 242, 243, 288, 416, 832, 912])] }),
  (191, { own := [], keep := [] }),
  (192, { own := [], keep := [] }),
  (193, { own := [], keep := [(5, [0, 6, 8, 9, 10, 11], [96, 128, 144, 432, 433, 434, 435, 480, 481, 482, 483])] }),
  (194, { own := [], keep := [] }),
  (195, { own := [], keep := [] }),
  (196, { own := [], keep := [] }),
  (197, { own := [], keep := [] }),
  (198, { own := [], keep := [(2, [1, 2, 8, 9, 10], [32]), (5, [1, 2, 6, 8, 9, 10, 15, 16], [32])] }),
  (199, { own := [], keep := [] }),
  (200, { own := [], keep := [] }),
  (201, { own := [], keep := [] }),
  (202, { own := [20, 24], keep := [(3, [2, 5, 6, 8, 9, 10, 11, 12, 13, 14], [80, 96, 128, 144, 160, 176, 192, 208, 320, 384, 688, 1296]), (7, [2, 5, 8, 9, 10, 11, 12, 13, 15], [80, 128, 144, 160, 176, 192, 208, 320, 384, 688, 1296]), (11, [2, 5, 8, 9, 10, 11, 12, 13, 15, 16, 17], [80, 128, 144, 160, 176, 192, 208, 320, 384, 688, 912, 913, 914, 915, 1296])] }),
  (203, { own := [], keep := [] }),
  (204, { own := [], keep := [] }),
  (205, { own := [], keep := [] }),
  (206, { own := [], keep := [] }),
  (207, { own := [], keep := [(2, [0, 7, 8, 9], [])] }),
  (208, { own := [], keep := [] }),
  (209, { own := [], keep := [] }),
  (210, { own := [], keep := [(5, [1, 6], [])] }),
  (211, { own := [], keep := [(4, [1, 2, 5], [32])] }),
  (212, { own := [], keep := [(3, [1, 2, 3, 7, 8], [48])] }),
  (213, { own := [], keep := [] }),
  (214, { own := [], keep := [(5, [1, 3, 7, 19, 20], [48])] }),
  (215, { own := [42], keep := [] }),
  (216, { own := [], keep := [] }),
  (217, { own := [], keep := [] }),
  (218, { own := [], keep := [(3, [1, 2, 3, 4, 8, 9, 16, 17], [64, 128, 144, 208, 209, 210, 211])] }),
  (219, { own := [], keep := [] }),
  (220, { own := [], keep := [] }),
  (221, { own := [8], keep := [(3, [1, 5, 9, 10, 11], [128, 320])] }),
  (222, { own := [], keep := [] }),
  (223, { own := [], keep := [] }),
  (224, { own := [], keep := [(4, [2, 3, 5], [32, 48]), (9, [2, 3, 6], [32, 48]), (12, [2, 3, 6, 7], [32, 48])] }),
  (225, { own := [17], keep := [(3, [1, 2, 4, 5, 6], [32, 64, 80, 144, 752]), (7, [1, 2, 4, 5, 6, 7, 8], [32, 64, 80, 144, 272, 672, 752])] }),
  (226, { own := [], keep := [(4, [4, 5, 7], [64, 80])] }),
  (227, { own := [9], keep := [(3, [1, 2, 4, 5, 6], [32, 64, 80, 144, 448])] }),
  (228, { own := [], keep := [(2, [1, 2, 5], [32])] }),
  (229, { own := [], keep := [(3, [2, 7, 8, 9], [176])] }),
  (230, { own := [], keep := [(2, [0, 1, 5], [])] }),
  (231, { own := [], keep := [] }),
  (232, { own := [11], keep := [(3, [1, 2, 6, 7, 18, 19], [32, 176, 256, 257, 258, 259, 736]), (7, [1, 2, 6, 7, 8, 18, 19, 27, 28, 29], [32, 176, 256, 257, 258, 259, 736])] }),
  (233, { own := [], keep := [(3, [0, 1, 2, 3, 4, 5, 6, 7, 10, 16, 17, 18], [])] }),
  (234, { own := [], keep := [(3, [2, 5, 8, 9, 10], [32])] }),
  (235, { own := [], keep := [] }),
  (236, { own := [15], keep := [(4, [1, 2, 6, 7, 8, 9], [32, 224, 240, 928]), (8, [1, 2, 6, 7, 8, 9, 10], [32, 224, 240, 928])] }),
  (237, { own := [], keep := [] }),
  (238, { own := [], keep := [] }),
  (239, { own := [], keep := [] }),
  (240, { own := [], keep := [(3, [0, 3, 6, 8, 9, 16, 17, 18], [80, 96, 128, 144, 656])] }),
  (241, { own := [], keep := [] }),
  (242, { own := [19], keep := [(3, [1, 3, 7, 13, 14, 15], [48, 304, 608]), (7, [1, 3, 7, 9, 10, 13, 14, 15, 20, 21, 22], [48, 304, 608])] }),
  (243, { own := [], keep := [(3, [1, 3, 7, 8], [16, 80, 256])] }),
  (244, { own := [], keep := [] }),
  (245, { own := [7], keep := [(3, [1, 3, 4], [16, 112, 704]), (7, [1, 3, 4, 5, 6], [16, 112, 704])] }),
  (246, { own := [], keep := [(4, [0, 1, 5], [])] }),
  (247, { own := [], keep := [(2, [1, 2, 5], [32])] }),
  (248, { own := [33, 35], keep := [(5, [9, 10, 11, 12, 13, 14], [496, 497, 498, 499, 528, 560])] }),
  (249, { own := [14], keep := [(4, [3, 4, 5, 6, 7, 8, 9], [48, 64, 80, 96, 128, 224, 544])] }),
  (250, { own := [16, 30, 72, 144], frz := [53, 131], dat := [71, 99, 120, 143], keep := [(1, [0, 2, 6], [256, 848, 849, 850, 851, 1168, 2096, 2097, 2098, 2099, 2320, 100000, 100001, 100002]), (5, [0, 2, 6, 7, 8], [256, 848, 849, 850, 851, 1168, 1584, 1585, 1586, 1587, 1920, 1921, 1922, 1923, 2096, 2097, 2098, 2099, 2320, 100000, 100001, 100002])] }),
  (251, { own := [7], keep := [(3, [0, 1, 5, 6], [112, 352, 544])] }),
  (252, { own := [], keep := [] }),
  (253, { own := [], keep := [] }),
  (254, { own := [], keep := [(3, [2, 6, 7, 12, 13], [96, 112, 352])] }),
  (255, { own := [], keep := [] }),
  (256, { own := [13, 27, 76, 138], frz := [97], dat := [75, 116, 127, 137], keep := [(1, [0, 4], [208, 1232, 1552, 1553, 1554, 1555, 2224, 100000, 100001, 100002])] }),
  (257, { own := [], keep := [] }),
  (258, { own := [], keep := [] }),
  (259, { own := [], keep := [] }),
  (260, { own := [], keep := [] }),
  (261, { own := [], keep := [] }),
  (262, { own := [], keep := [(4, [3, 4, 5, 6, 9, 10, 11, 12], [64, 80, 96])] }),
  (263, { own := [], keep := [(3, [0, 1, 2, 3, 4, 11, 12], [240])] }),
  (264, { own := [], keep := [(2, [2, 7, 8, 9], [32])] }),
  (265, { own := [], keep := [] }),
  (266, { own := [34], keep := [(5, [3, 4, 6, 9, 10, 11, 30, 31], [64, 96])] }),
  (267, { own := [], keep := [] }),
  (268, { own := [], dat := [41, 46], keep := [(5, [2, 3, 4, 8, 10, 26, 27], [48, 64, 400, 401, 402, 403])] }),
  (269, { own := [], keep := [(3, [0, 1, 5, 6], [288, 289, 290, 291])] }),
  (270, { own := [6], keep := [(3, [0, 3, 10, 11, 12], [96, 336, 528])] }),
  (271, { own := [], keep := [(2, [0, 1, 5], [])] }),
  (272, { own := [7, 9], keep := [] }),
  (273, { own := [], keep := [] }),
  (274, { own := [8], keep := [(3, [2, 4, 5, 6], [32, 64, 80, 128, 320])] }),
  (275, { own := [], keep := [] }),
  (276, { own := [], keep := [] }),
  (277, { own := [], keep := [] }),
  (278, { own := [], keep := [] }),
  (279, { own := [], keep := [(2, [0, 1, 7, 8], [])] }),
  (280, { own := [], keep := [] }),
  (281, { own := [], keep := [(4, [4, 7, 8, 9, 10, 11], [64, 368, 369, 370, 371, 464, 752]), (10, [4, 7, 9, 10, 12, 13], [64, 368, 369, 370, 371, 464, 752, 768, 1120, 1472]), (16, [4, 7, 9, 10, 12, 15], [64, 368, 369, 370, 371, 464, 752, 768, 1120, 1472]), (22, [4, 9, 10, 16, 17, 18], [64, 464, 752, 1600, 1601, 1602, 1603, 1616, 1984])] }),
  (282, { own := [], keep := [(2, [0, 3], [])] }),
  (283, { own := [15, 42], keep := [(3, [0, 1, 5, 19, 20, 21], [240, 496]), (10, [0, 5, 8, 36, 37, 38], [240, 496, 528, 576, 577, 578, 579, 960]), (14, [0, 5, 8, 10, 11, 36, 37, 38, 43, 44, 45], [240, 496, 528, 576, 577, 578, 579, 672, 880, 960])] }),
  (284, { own := [], keep := [(8, [7, 8], [480])] }),
  (285, { own := [], keep := [(3, [0, 5, 6, 7], [])] }),
  (286, { own := [], keep := [] }),
  (287, { own := [], frz := [47], keep := [(3, [0, 1, 6, 18, 19, 20], [224, 752, 753, 754, 755])] }),
  (288, { own := [5], keep := [] }),
  (289, { own := [], keep := [(3, [1, 2, 3, 4], [16, 32, 48, 80, 368])] }),
  (290, { own := [3], keep := [] }),
  (291, { own := [], keep := [(3, [1, 2, 4, 5, 6], [32, 64, 80, 160, 161, 162, 163]), (7, [1, 2, 4, 5, 6, 7, 8], [32, 64, 80, 160, 161, 162, 163])] }),
  (292, { own := [], keep := [(3, [5, 6, 7], [176, 177, 178, 179, 192, 416])] }),
  (293, { own := [], keep := [] }),
  (294, { own := [], keep := [(3, [1, 3, 4], [16, 112, 352, 353, 354, 355, 448]), (9, [1, 3, 4, 5, 6], [16, 112, 352, 353, 354, 355, 448])] }),
  (295, { own := [], keep := [(3, [0, 3, 4], [])] }),
  (296, { own := [7], keep := [] }),
  (297, { own := [7], keep := [(3, [0, 1, 5, 6], [112, 304, 464])] }),
  (298, { own := [14], keep := [(3, [0, 1, 4, 5, 10, 11], [64, 80, 496]), (7, [0, 1, 4, 5, 6, 7, 10, 11, 15, 16], [64, 80, 224, 400, 496])] }),
  (299, { own := [], keep := [] }),
  (300, { own := [], keep := [] }),
  (301, { own := [], keep := [] }),
  (302, { own := [], keep := [] }),
  (303, { own := [], keep := [] }),
  (304, { own := [], keep := [(2, [1, 2, 7, 8, 9], [32])] }),
  (305, { own := [], keep := [] }),
  (306, { own := [], keep := [(4, [0, 1, 12, 13], [])] }),
  (307, { own := [10], keep := [(3, [1, 2, 5, 6], [32, 160, 608]), (6, [1, 2, 5, 6, 17, 18, 19], [32, 160, 608])] }),
  (308, { own := [], keep := [] }),
  (309, { own := [], keep := [(3, [1, 2, 5, 6], [32])] }),
  (310, { own := [], keep := [(6, [2, 3, 4, 7, 8, 9], [48, 64, 368, 1488]), (10, [2, 3, 4, 7, 8, 9, 10, 11, 12], [48, 64, 368, 496, 497, 498, 499, 544, 1488]), (13, [2, 3, 4, 7, 8, 9, 10, 11, 12, 13], [48, 64, 368, 496, 497, 498, 499, 544, 1488])] }),
  (311, { own := [], keep := [(3, [2, 7, 8, 9], [176])] }),
  (312, { own := [], keep := [(3, [2, 5, 8, 9, 10], [32])] }),
  (313, { own := [], keep := [(1, [0, 1], [])] }),
  (314, { own := [], keep := [] }),
  (315, { own := [], keep := [(2, [2, 3, 4, 10, 11], [48, 64]), (5, [2, 3, 4, 7, 10, 11, 15, 16], [48, 64])] }),
  (316, { own := [], keep := [(2, [0, 1, 9, 10, 11], [])] }),
  (317, { own := [], keep := [] }),
  (318, { own := [], keep := [] }),
  (319, { own := [], keep := [(4, [0, 1, 5], []), (9, [0, 1, 5, 6, 7], [])] }),
  (320, { own := [], keep := [] }),
  (321, { own := [10], keep := [(3, [0, 2, 7, 8], [160])] }),
  (322, { own := [29], keep := [(3, [2, 3, 4, 7, 8, 9], [48, 64, 208, 896]), (9, [2, 3, 4, 7, 8, 9, 10, 11, 12], [48, 64, 160, 208, 384, 385, 386, 387, 464, 784, 896])] }),
  (323, { own := [], keep := [(4, [0, 1, 2, 7, 8], [])] }),
  (324, { own := [], keep := [(2, [0, 1, 7, 8, 9, 10], [])] }),
  (325, { own := [], keep := [(2, [0, 1, 7, 8], [])] }),
  (326, { own := [], keep := [] }),
  (327, { own := [], keep := [(3, [0, 1, 3, 4, 11, 17, 18, 19], [256])] }),
  (328, { own := [], keep := [(3, [0, 1, 2, 9, 23, 24], []), (6, [0, 1, 2, 9, 10, 23, 24, 30, 31], [])] }),
  (329, { own := [], keep := [(4, [2, 3, 29, 30, 31], [32, 48]), (10, [2, 3, 42, 43], [32, 48]), (13, [2, 3, 7, 42, 43, 47, 48], [32, 48])] }),
  (330, { own := [], keep := [(3, [0, 3, 9, 10, 11], []), (11, [6, 25, 26, 27], [384, 385, 386, 387, 528])] }),
  (331, { own := [], keep := [(5, [0, 1, 5, 6], [100000, 100001, 100002])] }),
  (332, { own := [5], keep := [(3, [3, 6, 7], [80, 208])] }),
  (333, { own := [], keep := [] }),
  (334, { own := [], keep := [(2, [0, 1, 2, 3, 8, 9], [100000, 100001, 100002])] }),
  (335, { own := [], keep := [] }),
  (336, { own := [18], keep := [(3, [2, 7, 8, 9], [288, 1136, 1248, 1249, 1250, 1251, 1376, 1392, 1616]), (7, [2, 7, 8, 9, 10, 11, 12, 13], [288, 1136, 1248, 1249, 1250, 1251, 1376, 1392, 1616]), (10, [2, 7, 8, 9, 10, 11, 12, 13, 14], [288, 1136, 1248, 1249, 1250, 1251, 1376, 1392, 1616]), (18, [2, 7, 9], [288, 1136, 1376]), (26, [2, 7, 8, 9, 16, 17], [288, 1136, 1248, 1249, 1250, 1251, 1376, 1392, 1616])] }),
  (337, { own := [], keep := [(3, [0, 1, 5, 19, 20, 21], [240, 1248, 1600]), (8, [0, 1, 5, 6, 7, 9, 19, 20, 21, 47, 48], [240, 688, 689, 690, 691, 1248, 1600]), (16, [0, 5, 83, 84, 85], [240, 1248, 1600])] }),
  (338, { own := [30], keep := [(3, [0, 1, 2, 7, 32, 33], [480, 1840, 2032, 6304]), (6, [0, 1, 2, 7, 8, 32, 33, 40, 41], [480, 1840, 2032, 6304]), (11, [0, 1, 2, 7], [480, 1840, 2032, 6304]), (15, [0, 1, 2, 7, 10, 11, 12, 13, 14], [176, 480, 1840, 2032, 6304]), (18, [0, 1, 2, 7, 10, 11, 12, 13, 14, 15], [176, 480, 1840, 2032, 6304]), (26, [0, 2, 7], [480, 1840, 2032, 6304]), (31, [0, 1, 2, 7, 10, 11, 13, 143, 144, 145], [176, 480, 1840, 2032, 6304]), (36, [0, 1, 2, 7, 10, 11, 19], [176, 480, 1840, 2032, 6304]), (39, [0, 1, 2, 7, 10, 11, 19, 189, 190], [176, 480, 1840, 2032, 6304]), (45, [0, 1, 2, 7, 10, 11, 21, 22], [176, 480, 1840, 2032, 6304]), (49, [0, 1, 2, 7, 10, 11, 21, 22, 23, 232, 233], [176, 480, 1840, 2032, 6304]), (55, [0, 1, 2, 7, 10, 11, 21, 25], [176, 480, 1840, 2032, 6304]), (59, [0, 1, 2, 7, 10, 11, 21, 25, 26, 294, 295], [176, 480, 1840, 2032, 6304]), (66, [0, 1, 2, 7, 10, 11, 21, 28], [176, 480, 1840, 2032, 6304]), (70, [0, 1, 2, 7, 10, 11, 28, 362, 363], [176, 480, 1840, 2032, 6304])] }),
  (339, { own := [], keep := [] }),
  (340, { own := [], keep := [] }),
  (341, { own := [14], keep := [(3, [0, 2, 3, 4], [32, 48, 112, 512]), (7, [0, 2, 3, 4, 5, 6], [32, 48, 112, 224, 432, 512])] }),
  (342, { own := [22], keep := [(3, [2, 3, 4, 5, 6, 7], [32, 48, 64, 96, 192, 1040]), (7, [2, 3, 4, 5, 6, 7, 8, 9], [32, 48, 64, 96, 192, 352, 960, 1040])] }),
  (343, { own := [22], keep := [(3, [0, 1, 4, 5, 6], [64, 80, 224, 1152]), (7, [0, 1, 4, 5, 6, 7, 8], [64, 80, 224, 352, 1072, 1152])] }),
  (344, { own := [8], keep := [(3, [0, 1, 5, 6], [128, 336, 337, 338, 339, 384, 448])] }),
  (345, { own := [], keep := [] }),
  (346, { own := [], keep := [(3, [1, 2, 5], [32]), (7, [1, 2, 5, 6, 7], [32, 224, 225, 226, 227]), (10, [1, 2, 5, 6, 7, 8], [32, 224, 225, 226, 227])] }),
  (347, { own := [], keep := [(4, [0, 1, 5], [])] }),
  (348, { own := [], keep := [(3, [1, 2, 3, 4, 9, 10], [64, 1488, 1489, 1490, 1491]), (6, [1, 2, 3, 4, 9, 10, 11], [64, 1488, 1489, 1490, 1491]), (14, [1, 2, 3, 4, 9, 13], [64, 1488, 1489, 1490, 1491])] }),
  (349, { own := [], keep := [] }),
  (350, { own := [], keep := [] }),
  (351, { own := [], keep := [] }),
  (352, { own := [], keep := [] }),
  (353, { own := [], keep := [(2, [0, 1, 2, 3, 4, 10, 11], [])] }),
  (354, { own := [], keep := [] }),
  (355, { own := [], keep := [] }),
  (356, { own := [], keep := [(1, [0, 1], [])] }),
  (357, { own := [], keep := [] }),
  (358, { own := [], keep := [] }),
  (359, { own := [], keep := [(1, [0, 1, 2, 6], [100000, 100001, 100002]), (4, [0, 1, 2, 6, 7], [100000, 100001, 100002])] }),
  (360, { own := [], keep := [(4, [0, 6, 7, 8, 9], []), (8, [0, 6, 7, 10], [])] }),
  (361, { own := [], keep := [(5, [0, 1, 6, 7, 8, 9], [112])] }),
  (362, { own := [], keep := [] }),
  (363, { own := [], keep := [(2, [0, 6, 7], [])] }),
  (364, { own := [], keep := [(3, [0, 1, 2, 7, 8], []), (5, [0, 1, 2, 7, 8], []), (14, [0, 1, 2, 7, 8, 9], []), (20, [0, 1, 2, 7, 8, 10], [])] }),
  (365, { own := [], keep := [] }),
  (366, { own := [], keep := [(3, [0, 1, 9, 10], []), (5, [0, 1, 9, 10], [])] }),
  (367, { own := [], keep := [(3, [0, 1, 10, 11], []), (5, [0, 1, 10, 11], []), (13, [0, 1, 10, 11], []), (15, [0, 1, 10, 11], [])] }),
  (368, { own := [], keep := [] }),
  (369, { own := [], keep := [] }),
  (370, { own := [], keep := [(3, [0, 1, 2, 3, 4, 11, 12], [544, 1072, 1168, 1169, 1170, 1171, 1904, 1905, 1906, 1907, 2208, 2209, 2210, 2211, 2496, 2497, 2498, 2499]), (13, [3, 4, 11, 15], [544, 1072, 1168, 1169, 1170, 1171, 1904, 1905, 1906, 1907, 2208, 2209, 2210, 2211, 2496, 2497, 2498, 2499]), (16, [3, 4, 11, 15, 16], [544, 1072, 1168, 1169, 1170, 1171, 1904, 1905, 1906, 1907, 2208, 2209, 2210, 2211, 2496, 2497, 2498, 2499]), (26, [3, 4, 11, 15, 23], [544, 1072, 1168, 1169, 1170, 1171, 1904, 1905, 1906, 1907, 2208, 2209, 2210, 2211, 2496, 2497, 2498, 2499]), (33, [3, 4, 11, 15, 23, 24, 25, 26, 27, 28, 29], [544, 1072, 1168, 1169, 1170, 1171, 1904, 1905, 1906, 1907, 2208, 2209, 2210, 2211, 2496, 2497, 2498, 2499]), (40, [3, 4, 11, 15, 33], [544, 1072, 1168, 1169, 1170, 1171, 1904, 1905, 1906, 1907, 2208, 2209, 2210, 2211, 2496, 2497, 2498, 2499])] }),
  (371, { own := [], keep := [] }),
  (372, { own := [], keep := [] }),
  (373, { own := [], keep := [] }),
  (374, { own := [], keep := [] }),
  (375, { own := [], keep := [(1, [0, 1, 2, 3, 8], []), (4, [0, 1, 2, 3, 8, 9], [])] }),
  (376, { own := [], keep := [(4, [0, 3, 8, 9, 10, 11], []), (8, [0, 3, 8, 9, 12], [])] }),
  (377, { own := [], keep := [(5, [0, 1, 8, 9, 10, 11], [144])] }),
  (378, { own := [], keep := [] }),
  (379, { own := [], keep := [(2, [0, 8, 9], [])] }),
  (380, { own := [], keep := [(3, [0, 1, 2, 3, 9, 10], []), (5, [0, 1, 2, 3, 9, 10], []), (14, [0, 1, 2, 3, 9, 10, 11], []), (20, [0, 1, 2, 3, 9, 10, 12], [])] }),
  (381, { own := [], keep := [(3, [0, 1, 4, 11, 12], []), (5, [0, 1, 4, 11, 12], [])] }),
  (382, { own := [], keep := [(3, [0, 1, 4, 12, 13], []), (5, [0, 1, 4, 12, 13], []), (13, [0, 1, 4, 12, 13], []), (15, [0, 1, 4, 12, 13], [])] }),
  (383, { own := [], keep := [(1, [0, 2, 3, 8], [])] }),
  (384, { own := [], keep := [] }),
  (385, { own := [], keep := [] }),
  (386, { own := [], keep := [] }),
  (387, { own := [], keep := [] }),
  (388, { own := [], keep := [(1, [0, 2, 3, 4, 10], [])] }),
  (389, { own := [], keep := [] }),
  (390, { own := [], keep := [] }),
  (391, { own := [], keep := [] }),
  (392, { own := [], keep := [] })]
def An : Ann := { lend := [22, 23, 24, 56, 57, 146, 147, 159, 184, 250, 256, 280, 331, 334, 359], fn := fun k => (lookL annL k).getD {} }
@[simp] theorem an_lend : An.lend = [22, 23, 24, 56, 57, 146, 147, 159, 184, 250, 256, 280, 331, 334, 359] := rfl
@[simp] theorem an3 : An.fn 3 = { own := [], keep := [] } := rfl
@[simp] theorem an4 : An.fn 4 = { own := [], keep := [] } := rfl
@[simp] theorem an5 : An.fn 5 = { own := [], keep := [] } := rfl
@[simp] theorem an6 : An.fn 6 = { own := [], keep := [] } := rfl
@[simp] theorem an7 : An.fn 7 = { own := [], keep := [] } := rfl
@[simp] theorem an8 : An.fn 8 = { own := [], keep := [] } := rfl
@[simp] theorem an9 : An.fn 9 = { own := [], keep := [(31, [3, 4, 6, 10, 14, 18, 28], [48, 592, 593, 594, 595, 720, 721, 722, 723, 1440, 1441, 1442, 1443, 1808, 1809, 1810, 1811]), (34, [3, 4, 6, 10, 14, 18, 28, 29], [48, 592, 593, 594, 595, 720, 721, 722, 723, 1440, 1441, 1442, 1443, 1808, 1809, 1810, 1811]), (40, [14, 18, 30, 31], [1440, 1441, 1442, 1443, 1808, 1809, 1810, 1811]), (44, [14, 18, 30, 31, 32], [1440, 1441, 1442, 1443, 1808, 1809, 1810, 1811])] } := rfl
@[simp] theorem an10 : An.fn 10 = { own := [], keep := [] } := rfl
@[simp] theorem an11 : An.fn 11 = { own := [], keep := [] } := rfl
@[simp] theorem an12 : An.fn 12 = { own := [], keep := [] } := rfl
@[simp] theorem an13 : An.fn 13 = { own := [], keep := [] } := rfl
@[simp] theorem an14 : An.fn 14 = { own := [], keep := [] } := rfl
@[simp] theorem an15 : An.fn 15 = { own := [], dat := [67, 74, 81, 89], keep := [(18, [2, 3, 4, 5, 11, 15, 16, 17, 18, 19, 20, 22, 23, 24, 25], [64, 80, 1072, 1073, 1074, 1075, 1184, 1185, 1186, 1187, 1296, 1297, 1298, 1299, 1424, 1425, 1426, 1427, 1472, 1488, 1504, 1872, 2144, 2464])] } := rfl
@[simp] theorem an16 : An.fn 16 = { own := [], keep := [] } := rfl
@[simp] theorem an17 : An.fn 17 = { own := [], keep := [] } := rfl
@[simp] theorem an18 : An.fn 18 = { own := [], keep := [] } := rfl
@[simp] theorem an19 : An.fn 19 = { own := [], keep := [(4, [0, 1, 5], [])] } := rfl
@[simp] theorem an20 : An.fn 20 = { own := [], keep := [] } := rfl
@[simp] theorem an21 : An.fn 21 = { own := [], keep := [] } := rfl
@[simp] theorem an22 : An.fn 22 = { own := [], keep := [] } := rfl
@[simp] theorem an23 : An.fn 23 = { own := [], keep := [] } := rfl
@[simp] theorem an24 : An.fn 24 = { own := [], keep := [(2, [0, 1, 5], [100000, 100001, 100002])] } := rfl
@[simp] theorem an25 : An.fn 25 = { own := [], keep := [(2, [0, 1, 5], [])] } := rfl
@[simp] theorem an26 : An.fn 26 = { own := [], keep := [] } := rfl
@[simp] theorem an27 : An.fn 27 = { own := [], keep := [] } := rfl
@[simp] theorem an28 : An.fn 28 = { own := [], keep := [] } := rfl
@[simp] theorem an29 : An.fn 29 = { own := [], keep := [] } := rfl
@[simp] theorem an30 : An.fn 30 = { own := [], keep := [] } := rfl
@[simp] theorem an31 : An.fn 31 = { own := [], keep := [] } := rfl
@[simp] theorem an32 : An.fn 32 = { own := [], keep := [] } := rfl
@[simp] theorem an33 : An.fn 33 = { own := [], keep := [] } := rfl
@[simp] theorem an34 : An.fn 34 = { own := [], keep := [] } := rfl
@[simp] theorem an35 : An.fn 35 = { own := [], keep := [] } := rfl
@[simp] theorem an36 : An.fn 36 = { own := [], keep := [] } := rfl
@[simp] theorem an37 : An.fn 37 = { own := [], keep := [] } := rfl
@[simp] theorem an38 : An.fn 38 = { own := [], keep := [] } := rfl
@[simp] theorem an39 : An.fn 39 = { own := [], keep := [] } := rfl
@[simp] theorem an40 : An.fn 40 = { own := [], keep := [] } := rfl
@[simp] theorem an41 : An.fn 41 = { own := [], keep := [] } := rfl
@[simp] theorem an42 : An.fn 42 = { own := [], keep := [] } := rfl
@[simp] theorem an43 : An.fn 43 = { own := [], keep := [] } := rfl
@[simp] theorem an44 : An.fn 44 = { own := [], keep := [(3, [0, 3, 4], [])] } := rfl
@[simp] theorem an45 : An.fn 45 = { own := [], keep := [] } := rfl
@[simp] theorem an46 : An.fn 46 = { own := [], keep := [] } := rfl
@[simp] theorem an47 : An.fn 47 = { own := [], keep := [] } := rfl
@[simp] theorem an48 : An.fn 48 = { own := [], keep := [(4, [0, 1, 5], [])] } := rfl
@[simp] theorem an49 : An.fn 49 = { own := [], keep := [] } := rfl
@[simp] theorem an50 : An.fn 50 = { own := [], keep := [] } := rfl
@[simp] theorem an51 : An.fn 51 = { own := [], keep := [(6, [3, 9, 10, 11, 12], [48, 400, 401, 402, 403, 416, 1056]), (11, [3, 9, 10, 11, 12, 13, 14], [48, 400, 401, 402, 403, 416, 1056])] } := rfl
@[simp] theorem an52 : An.fn 52 = { own := [], keep := [] } := rfl
@[simp] theorem an53 : An.fn 53 = { own := [], keep := [] } := rfl
@[simp] theorem an54 : An.fn 54 = { own := [], keep := [(4, [0, 1, 5], [])] } := rfl
@[simp] theorem an55 : An.fn 55 = { own := [], keep := [] } := rfl
@[simp] theorem an56 : An.fn 56 = { own := [], keep := [] } := rfl
@[simp] theorem an57 : An.fn 57 = { own := [], keep := [(2, [0, 1, 5], [100000, 100001, 100002])] } := rfl
@[simp] theorem an58 : An.fn 58 = { own := [], keep := [(2, [0, 1, 5], [])] } := rfl
@[simp] theorem an59 : An.fn 59 = { own := [], keep := [] } := rfl
@[simp] theorem an60 : An.fn 60 = { own := [], keep := [] } := rfl
@[simp] theorem an61 : An.fn 61 = { own := [18], keep := [(6, [4, 5, 6, 7, 8], [224, 225, 226, 227, 272, 273, 274, 275, 288, 768])] } := rfl
@[simp] theorem an62 : An.fn 62 = { own := [21, 30], keep := [(8, [4, 5, 6, 31, 32, 33], [432, 433, 434, 435, 464, 465, 466, 467, 480, 496, 1152]), (12, [4, 5, 6, 9, 31, 32, 33, 42, 43, 44], [432, 433, 434, 435, 464, 465, 466, 467, 480, 496, 624, 625, 626, 627, 672, 673, 674, 675, 912, 913, 914, 915, 1152]), (19, [4, 5, 6, 31, 32, 33, 59, 60, 61], [432, 433, 434, 435, 464, 465, 466, 467, 480, 496, 624, 625, 626, 627, 912, 913, 914, 915, 1152])] } := rfl
@[simp] theorem an63 : An.fn 63 = { own := [], keep := [] } := rfl
@[simp] theorem an64 : An.fn 64 = { own := [], keep := [] } := rfl
@[simp] theorem an65 : An.fn 65 = { own := [], keep := [] } := rfl
@[simp] theorem an66 : An.fn 66 = { own := [], keep := [(4, [0, 1, 5], [])] } := rfl
@[simp] theorem an67 : An.fn 67 = { own := [], keep := [(5, [1, 3, 5, 19, 20], [48, 80]), (8, [1, 3, 5, 9, 19, 20, 24, 25], [48, 80])] } := rfl
@[simp] theorem an68 : An.fn 68 = { own := [], keep := [(5, [3, 5, 9], [48, 80]), (8, [3, 5, 9, 10], [48, 80])] } := rfl
@[simp] theorem an69 : An.fn 69 = { own := [], keep := [] } := rfl
@[simp] theorem an70 : An.fn 70 = { own := [], keep := [] } := rfl
@[simp] theorem an71 : An.fn 71 = { own := [], keep := [] } := rfl
@[simp] theorem an72 : An.fn 72 = { own := [], keep := [] } := rfl
@[simp] theorem an73 : An.fn 73 = { own := [], keep := [(2, [0, 1, 5], [])] } := rfl
@[simp] theorem an74 : An.fn 74 = { own := [], keep := [] } := rfl
@[simp] theorem an75 : An.fn 75 = { own := [], keep := [(3, [0, 3, 4], [])] } := rfl
@[simp] theorem an76 : An.fn 76 = { own := [], keep := [] } := rfl
@[simp] theorem an77 : An.fn 77 = { own := [], keep := [] } := rfl
@[simp] theorem an78 : An.fn 78 = { own := [], keep := [] } := rfl
@[simp] theorem an79 : An.fn 79 = { own := [], keep := [] } := rfl
@[simp] theorem an80 : An.fn 80 = { own := [], keep := [] } := rfl
@[simp] theorem an81 : An.fn 81 = { own := [], keep := [] } := rfl
@[simp] theorem an82 : An.fn 82 = { own := [], keep := [] } := rfl
@[simp] theorem an83 : An.fn 83 = { own := [], keep := [] } := rfl
@[simp] theorem an84 : An.fn 84 = { own := [], keep := [] } := rfl
@[simp] theorem an85 : An.fn 85 = { own := [], keep := [] } := rfl
@[simp] theorem an86 : An.fn 86 = { own := [], keep := [] } := rfl
@[simp] theorem an87 : An.fn 87 = { own := [], keep := [] } := rfl
@[simp] theorem an88 : An.fn 88 = { own := [], keep := [] } := rfl
@[simp] theorem an89 : An.fn 89 = { own := [69], keep := [(14, [2, 4, 5, 6, 8, 10, 13, 14, 15, 16, 17], [80, 96, 128, 160, 208, 256, 816, 817, 818, 819, 1008, 1009, 1010, 1011, 1104, 1920]), (18, [2, 4, 5, 6, 8, 10, 13, 14, 15, 16, 17, 18, 19], [80, 96, 128, 160, 208, 256, 816, 817, 818, 819, 1008, 1009, 1010, 1011, 1104, 1312, 1313, 1314, 1315, 1920])] } := rfl
@[simp] theorem an90 : An.fn 90 = { own := [], keep := [] } := rfl
@[simp] theorem an91 : An.fn 91 = { own := [], keep := [] } := rfl
@[simp] theorem an92 : An.fn 92 = { own := [], keep := [] } := rfl
@[simp] theorem an93 : An.fn 93 = { own := [], keep := [] } := rfl
@[simp] theorem an94 : An.fn 94 = { own := [], keep := [(12, [2, 4, 5, 7, 8, 11, 13, 14, 15, 16], [64, 80, 112, 128, 176, 240, 496, 497, 498, 499, 768, 769, 770, 771, 864, 865, 866, 867]), (16, [2, 4, 5, 7, 8, 11, 13, 14, 15, 16, 17, 18], [64, 80, 112, 128, 176, 240, 496, 497, 498, 499, 768, 769, 770, 771, 864, 865, 866, 867])] } := rfl
@[simp] theorem an95 : An.fn 95 = { own := [], keep := [] } := rfl
@[simp] theorem an96 : An.fn 96 = { own := [], keep := [] } := rfl
@[simp] theorem an97 : An.fn 97 = { own := [], keep := [] } := rfl
@[simp] theorem an98 : An.fn 98 = { own := [], keep := [] } := rfl
@[simp] theorem an99 : An.fn 99 = { own := [], keep := [] } := rfl
@[simp] theorem an100 : An.fn 100 = { own := [], keep := [] } := rfl
@[simp] theorem an101 : An.fn 101 = { own := [], keep := [] } := rfl
@[simp] theorem an102 : An.fn 102 = { own := [], keep := [] } := rfl
@[simp] theorem an103 : An.fn 103 = { own := [], keep := [] } := rfl
@[simp] theorem an104 : An.fn 104 = { own := [], keep := [] } := rfl
@[simp] theorem an105 : An.fn 105 = { own := [], keep := [(11, [2, 3, 9, 10, 11, 46, 47, 48], [48, 688, 689, 690, 691])] } := rfl
@[simp] theorem an106 : An.fn 106 = { own := [], keep := [(13, [2, 3, 9, 10, 11, 12], [48, 736, 737, 738, 739])] } := rfl
@[simp] theorem an107 : An.fn 107 = { own := [], keep := [] } := rfl
@[simp] theorem an108 : An.fn 108 = { own := [], keep := [] } := rfl
@[simp] theorem an109 : An.fn 109 = { own := [], keep := [] } := rfl
@[simp] theorem an110 : An.fn 110 = { own := [], keep := [] } := rfl
@[simp] theorem an111 : An.fn 111 = { own := [], keep := [] } := rfl
@[simp] theorem an112 : An.fn 112 = { own := [], keep := [(5, [0, 1, 5], [])] } := rfl
@[simp] theorem an113 : An.fn 113 = { own := [], keep := [] } := rfl
@[simp] theorem an114 : An.fn 114 = { own := [], keep := [] } := rfl
@[simp] theorem an115 : An.fn 115 = { own := [], keep := [] } := rfl
@[simp] theorem an116 : An.fn 116 = { own := [], keep := [] } := rfl
@[simp] theorem an117 : An.fn 117 = { own := [8], keep := [(3, [1, 2, 4, 5, 6], [32, 64, 80, 128, 432])] } := rfl
@[simp] theorem an118 : An.fn 118 = { own := [23], keep := [] } := rfl
@[simp] theorem an119 : An.fn 119 = { own := [9], keep := [(3, [1, 2, 4, 5, 6], [32, 64, 80, 144, 448])] } := rfl
@[simp] theorem an120 : An.fn 120 = { own := [9], keep := [(3, [1, 2, 4, 5, 6], [32, 64, 80, 144, 448])] } := rfl
@[simp] theorem an121 : An.fn 121 = { own := [], keep := [(3, [2, 5, 8, 9, 10], [80, 128, 144, 224, 225, 226, 227])] } := rfl
@[simp] theorem an122 : An.fn 122 = { own := [16], keep := [(3, [0, 1, 2, 7, 8, 9], [256]), (8, [0, 1, 2, 7, 8, 10], [256]), (13, [8, 11, 12, 13], [816, 817, 818, 819, 864, 865, 866, 867])] } := rfl
@[simp] theorem an123 : An.fn 123 = { own := [], keep := [(3, [0, 3, 4], [112, 320, 321, 322, 323])] } := rfl
@[simp] theorem an124 : An.fn 124 = { own := [], keep := [(3, [0, 3, 4], [112])] } := rfl
@[simp] theorem an125 : An.fn 125 = { own := [], keep := [] } := rfl
@[simp] theorem an126 : An.fn 126 = { own := [], keep := [] } := rfl
@[simp] theorem an127 : An.fn 127 = { own := [], keep := [] } := rfl
@[simp] theorem an128 : An.fn 128 = { own := [], dat := [28], keep := [(3, [2, 5, 13, 14, 31, 32, 33], [320, 321, 322, 323, 384, 385, 386, 387, 448, 449, 450, 451])] } := rfl
@[simp] theorem an129 : An.fn 129 = { own := [], keep := [] } := rfl
@[simp] theorem an130 : An.fn 130 = { own := [], keep := [] } := rfl
@[simp] theorem an131 : An.fn 131 = { own := [], keep := [] } := rfl
@[simp] theorem an132 : An.fn 132 = { own := [], keep := [] } := rfl
@[simp] theorem an133 : An.fn 133 = { own := [], keep := [] } := rfl
@[simp] theorem an134 : An.fn 134 = { own := [], keep := [] } := rfl
@[simp] theorem an135 : An.fn 135 = { own := [], keep := [] } := rfl
@[simp] theorem an136 : An.fn 136 = { own := [], keep := [] } := rfl
@[simp] theorem an137 : An.fn 137 = { own := [], keep := [(2, [13, 14, 15], [192, 193, 194, 195])] } := rfl
@[simp] theorem an138 : An.fn 138 = { own := [], keep := [] } := rfl
@[simp] theorem an139 : An.fn 139 = { own := [], keep := [(2, [3, 4, 5, 7], [48, 64, 80])] } := rfl
@[simp] theorem an140 : An.fn 140 = { own := [], keep := [(17, [4, 5, 7, 8, 9, 10, 11, 12, 13, 14, 16, 17, 18], [64, 80, 112, 144, 160, 208, 320, 321, 322, 323, 368, 369, 370, 371, 560, 816, 817, 818, 819, 1024, 1025, 1026, 1027, 1120, 1472, 1473, 1474, 1475, 1888, 1889, 1890, 1891])] } := rfl
@[simp] theorem an141 : An.fn 141 = { own := [], keep := [(4, [2, 3, 4, 7], [48, 64])] } := rfl
@[simp] theorem an142 : An.fn 142 = { own := [], keep := [(4, [3, 4, 14, 15, 16], [48, 64])] } := rfl
@[simp] theorem an143 : An.fn 143 = { own := [], keep := [] } := rfl
@[simp] theorem an144 : An.fn 144 = { own := [], keep := [(3, [0, 3, 4], [176])] } := rfl
@[simp] theorem an145 : An.fn 145 = { own := [], keep := [] } := rfl
@[simp] theorem an146 : An.fn 146 = { own := [], keep := [] } := rfl
@[simp] theorem an147 : An.fn 147 = { own := [], keep := [] } := rfl
@[simp] theorem an148 : An.fn 148 = { own := [], keep := [] } := rfl
@[simp] theorem an149 : An.fn 149 = { own := [], keep := [] } := rfl
@[simp] theorem an150 : An.fn 150 = { own := [], keep := [(4, [5, 6, 7, 16, 17, 18], [208, 209, 210, 211, 240, 241, 242, 243, 256]), (8, [5, 6, 7, 9, 10, 16, 17, 18, 23, 24], [208, 209, 210, 211, 240, 241, 242, 243, 256]), (13, [5, 6, 7, 9, 16, 17, 18, 43, 44], [208, 209, 210, 211, 240, 241, 242, 243, 256])] } := rfl
@[simp] theorem an151 : An.fn 151 = { own := [], dat := [38], keep := [(5, [2, 3, 4, 7, 22, 23], [48, 64, 240, 241, 242, 243])] } := rfl
@[simp] theorem an152 : An.fn 152 = { own := [], keep := [] } := rfl
@[simp] theorem an153 : An.fn 153 = { own := [16], keep := [(3, [7, 8, 9], [240, 241, 242, 243, 256, 704]), (7, [7, 8, 9, 10, 11], [240, 241, 242, 243, 256, 704])] } := rfl
@[simp] theorem an154 : An.fn 154 = { own := [], keep := [] } := rfl
@[simp] theorem an155 : An.fn 155 = { own := [], keep := [] } := rfl
@[simp] theorem an156 : An.fn 156 = { own := [5], keep := [(3, [0, 3, 4], [80, 304])] } := rfl
@[simp] theorem an157 : An.fn 157 = { own := [], keep := [] } := rfl
@[simp] theorem an158 : An.fn 158 = { own := [], keep := [] } := rfl
@[simp] theorem an159 : An.fn 159 = { own := [], keep := [(5, [0, 1, 5, 6], [100000, 100001, 100002])] } := rfl
@[simp] theorem an160 : An.fn 160 = { own := [22], keep := [(3, [1, 3, 4, 14, 15], [16, 144, 192, 800]), (8, [1, 3, 4, 5, 6, 14, 15, 24, 25], [16, 144, 192, 352, 688, 800])] } := rfl
@[simp] theorem an161 : An.fn 161 = { own := [], keep := [] } := rfl
@[simp] theorem an162 : An.fn 162 = { own := [], keep := [] } := rfl
@[simp] theorem an163 : An.fn 163 = { own := [], keep := [(5, [1, 3, 4], [16]), (10, [1, 3, 4, 5], [16]), (15, [1, 3, 6], [16]), (21, [1, 3, 6, 7, 8], [16]), (25, [1, 3, 6, 7, 8, 9], [16])] } := rfl
@[simp] theorem an164 : An.fn 164 = { own := [8], keep := [] } := rfl
@[simp] theorem an165 : An.fn 165 = { own := [], keep := [(5, [1, 3, 18, 19, 20], [16]), (11, [1, 3, 35, 36], [16]), (16, [1, 3, 6, 35, 36, 68, 69], [16]), (19, [1, 3, 6, 7, 35, 36, 68, 69, 72, 73], [16])] } := rfl
@[simp] theorem an166 : An.fn 166 = { own := [6], keep := [] } := rfl
@[simp] theorem an167 : An.fn 167 = { own := [9], keep := [(3, [0, 3, 4], [144, 656]), (7, [0, 3, 4, 5, 6], [144, 656]), (10, [0, 3, 4, 5, 6, 7], [144, 656]), (16, [0, 3, 4, 5, 6, 7, 8], [144, 656])] } := rfl
@[simp] theorem an168 : An.fn 168 = { own := [13, 18], keep := [(3, [0, 3, 4], [208, 1376]), (7, [0, 3, 4, 5, 6], [208, 288, 768, 1376]), (10, [0, 3, 4, 5, 6, 7], [208, 288, 768, 1376]), (15, [0, 3, 4, 5, 6, 7, 8], [208, 288, 768, 1376]), (20, [0, 3, 4, 5, 9], [208, 288, 768, 1376]), (26, [3, 10, 11], [208, 1376])] } := rfl
@[simp] theorem an169 : An.fn 169 = { own := [], keep := [] } := rfl
@[simp] theorem an170 : An.fn 170 = { own := [], keep := [] } := rfl
@[simp] theorem an171 : An.fn 171 = { own := [], keep := [] } := rfl
@[simp] theorem an172 : An.fn 172 = { own := [9], keep := [(3, [0, 5, 10, 11, 12], [144, 416])] } := rfl
@[simp] theorem an173 : An.fn 173 = { own := [], keep := [(2, [0, 1, 7, 8], [])] } := rfl
@[simp] theorem an174 : An.fn 174 = { own := [], keep := [] } := rfl
@[simp] theorem an175 : An.fn 175 = { own := [], keep := [(1, [0, 2, 3], [])] } := rfl
@[simp] theorem an176 : An.fn 176 = { own := [44], keep := [(16, [2, 4, 5, 6, 7, 8, 10, 11, 12], [32, 64, 96, 128, 240, 241, 242, 243, 272, 273, 274, 275, 368, 369, 370, 371, 528, 529, 530, 531, 704, 768, 769, 770, 771, 832, 833, 834, 835, 912, 1264, 1265, 1266, 1267, 1824, 1825, 1826, 1827])] } := rfl
@[simp] theorem an177 : An.fn 177 = { own := [18], keep := [(3, [1, 3, 5, 7, 14, 15], [48, 80, 192, 784]), (7, [1, 3, 5, 7, 8, 9, 14, 15, 20, 21], [48, 80, 192, 288, 704, 784])] } := rfl
@[simp] theorem an178 : An.fn 178 = { own := [18], keep := [(3, [1, 3, 5, 7, 8], [48, 80, 176, 1056]), (7, [1, 3, 5, 7, 8, 9, 10], [48, 80, 176, 288, 704, 992, 1056])] } := rfl
@[simp] theorem an179 : An.fn 179 = { own := [], keep := [] } := rfl
@[simp] theorem an180 : An.fn 180 = { own := [], keep := [(3, [2, 3, 4, 7, 8], [48, 64])] } := rfl
@[simp] theorem an181 : An.fn 181 = { own := [], keep := [] } := rfl
@[simp] theorem an182 : An.fn 182 = { own := [], keep := [(5, [2, 3, 4, 19, 20, 21], [48, 64]), (13, [3, 4, 40, 41, 42], [48, 64])] } := rfl
@[simp] theorem an183 : An.fn 183 = { own := [], keep := [] } := rfl
@[simp] theorem an184 : An.fn 184 = { own := [], keep := [] } := rfl
@[simp] theorem an185 : An.fn 185 = { own := [], keep := [] } := rfl
@[simp] theorem an186 : An.fn 186 = { own := [], keep := [] } := rfl
@[simp] theorem an187 : An.fn 187 = { own := [], keep := [] } := rfl
@[simp] theorem an188 : An.fn 188 = { own := [], keep := [] } := rfl
@[simp] theorem an189 : An.fn 189 = { own := [], keep := [(3, [1, 2, 5, 6], [32]), (6, [1, 2, 5, 6, 7], [32])] } := rfl
@[simp] theorem an190 : An.fn 190 = { own := [26], keep := [(4, [2, 4, 6, 7, 8, 9], [32, 64, 128, 240, 241, 242, 243, 288, 912]), (8, [2, 4, 6, 7, 8, 9, 10, 11], [32, 64, 128, 240, 241, 242, 243, 288, 416, 832, 912])] } := rfl
@[simp] theorem an191 : An.fn 191 = { own := [], keep := [] } := rfl
@[simp] theorem an192 : An.fn 192 = { own := [], keep := [] } := rfl
@[simp] theorem an193 : An.fn 193 = { own := [], keep := [(5, [0, 6, 8, 9, 10, 11], [96, 128, 144, 432, 433, 434, 435, 480, 481, 482, 483])] } := rfl
@[simp] theorem an194 : An.fn 194 = { own := [], keep := [] } := rfl
@[simp] theorem an195 : An.fn 195 = { own := [], keep := [] } := rfl
@[simp] theorem an196 : An.fn 196 = { own := [], keep := [] } := rfl
@[simp] theorem an197 : An.fn 197 = { own := [], keep := [] } := rfl
@[simp] theorem an198 : An.fn 198 = { own := [], keep := [(2, [1, 2, 8, 9, 10], [32]), (5, [1, 2, 6, 8, 9, 10, 15, 16], [32])] } := rfl
@[simp] theorem an199 : An.fn 199 = { own := [], keep := [] } := rfl
@[simp] theorem an200 : An.fn 200 = { own := [], keep := [] } := rfl
@[simp] theorem an201 : An.fn 201 = { own := [], keep := [] } := rfl
@[simp] theorem an202 : An.fn 202 = { own := [20, 24], keep := [(3, [2, 5, 6, 8, 9, 10, 11, 12, 13, 14], [80, 96, 128, 144, 160, 176, 192, 208, 320, 384, 688, 1296]), (7, [2, 5, 8, 9, 10, 11, 12, 13, 15], [80, 128, 144, 160, 176, 192, 208, 320, 384, 688, 1296]), (11, [2, 5, 8, 9, 10, 11, 12, 13, 15, 16, 17], [80, 128, 144, 160, 176, 192, 208, 320, 384, 688, 912, 913, 914, 915, 1296])] } := rfl
@[simp] theorem an203 : An.fn 203 = { own := [], keep := [] } := rfl
@[simp] theorem an204 : An.fn 204 = { own := [], keep := [] } := rfl
@[simp] theorem an205 : An.fn 205 = { own := [], keep := [] } := rfl
@[simp] theorem an206 : An.fn 206 = { own := [], keep := [] } := rfl
@[simp] theorem an207 : An.fn 207 = { own := [], keep := [(2, [0, 7, 8, 9], [])] } := rfl
@[simp] theorem an208 : An.fn 208 = { own := [], keep := [] } := rfl
@[simp] theorem an209 : An.fn 209 = { own := [], keep := [] } := rfl
@[simp] theorem an210 : An.fn 210 = { own := [], keep := [(5, [1, 6], [])] } := rfl
@[simp] theorem an211 : An.fn 211 = { own := [], keep := [(4, [1, 2, 5], [32])] } := rfl
@[simp] theorem an212 : An.fn 212 = { own := [], keep := [(3, [1, 2, 3, 7, 8], [48])] } := rfl
@[simp] theorem an213 : An.fn 213 = { own := [], keep := [] } := rfl
@[simp] theorem an214 : An.fn 214 = { own := [], keep := [(5, [1, 3, 7, 19, 20], [48])] } := rfl
@[simp] theorem an215 : An.fn 215 = { own := [42], keep := [] } := rfl
@[simp] theorem an216 : An.fn 216 = { own := [], keep := [] } := rfl
@[simp] theorem an217 : An.fn 217 = { own := [], keep := [] } := rfl
@[simp] theorem an218 : An.fn 218 = { own := [], keep := [(3, [1, 2, 3, 4, 8, 9, 16, 17], [64, 128, 144, 208, 209, 210, 211])] } := rfl
@[simp] theorem an219 : An.fn 219 = { own := [], keep := [] } := rfl
@[simp] theorem an220 : An.fn 220 = { own := [], keep := [] } := rfl
@[simp] theorem an221 : An.fn 221 = { own := [8], keep := [(3, [1, 5, 9, 10, 11], [128, 320])] } := rfl
@[simp] theorem an222 : An.fn 222 = { own := [], keep := [] } := rfl
@[simp] theorem an223 : An.fn 223 = { own := [], keep := [] } := rfl
@[simp] theorem an224 : An.fn 224 = { own := [], keep := [(4, [2, 3, 5], [32, 48]), (9, [2, 3, 6], [32, 48]), (12, [2, 3, 6, 7], [32, 48])] } := rfl
@[simp] theorem an225 : An.fn 225 = { own := [17], keep := [(3, [1, 2, 4, 5, 6], [32, 64, 80, 144, 752]), (7, [1, 2, 4, 5, 6, 7, 8], [32, 64, 80, 144, 272, 672, 752])] } := rfl
@[simp] theorem an226 : An.fn 226 = { own := [], keep := [(4, [4, 5, 7], [64, 80])] } := rfl
@[simp] theorem an227 : An.fn 227 = { own := [9], keep := [(3, [1, 2, 4, 5, 6], [32, 64, 80, 144, 448])] } := rfl
@[simp] theorem an228 : An.fn 228 = { own := [], keep := [(2, [1, 2, 5], [32])] } := rfl
@[simp] theorem an229 : An.fn 229 = { own := [], keep := [(3, [2, 7, 8, 9], [176])] } := rfl
@[simp] theorem an230 : An.fn 230 = { own := [], keep := [(2, [0, 1, 5], [])] } := rfl
@[simp] theorem an231 : An.fn 231 = { own := [], keep := [] } := rfl
@[simp] theorem an232 : An.fn 232 = { own := [11], keep := [(3, [1, 2, 6, 7, 18, 19], [32, 176, 256, 257, 258, 259, 736]), (7, [1, 2, 6, 7, 8, 18, 19, 27, 28, 29], [32, 176, 256, 257, 258, 259, 736])] } := rfl
@[simp] theorem an233 : An.fn 233 = { own := [], keep := [(3, [0, 1, 2, 3, 4, 5, 6, 7, 10, 16, 17, 18], [])] } := rfl
@[simp] theorem an234 : An.fn 234 = { own := [], keep := [(3, [2, 5, 8, 9, 10], [32])] } := rfl
@[simp] theorem an235 : An.fn 235 = { own := [], keep := [] } := rfl
@[simp] theorem an236 : An.fn 236 = { own := [15], keep := [(4, [1, 2, 6, 7, 8, 9], [32, 224, 240, 928]), (8, [1, 2, 6, 7, 8, 9, 10], [32, 224, 240, 928])] } := rfl
@[simp] theorem an237 : An.fn 237 = { own := [], keep := [] } := rfl
@[simp] theorem an238 : An.fn 238 = { own := [], keep := [] } := rfl
@[simp] theorem an239 : An.fn 239 = { own := [], keep := [] } := rfl
@[simp] theorem an240 : An.fn 240 = { own := [], keep := [(3, [0, 3, 6, 8, 9, 16, 17, 18], [80, 96, 128, 144, 656])] } := rfl
@[simp] theorem an241 : An.fn 241 = { own := [], keep := [] } := rfl
@[simp] theorem an242 : An.fn 242 = { own := [19], keep := [(3, [1, 3, 7, 13, 14, 15], [48, 304, 608]), (7, [1, 3, 7, 9, 10, 13, 14, 15, 20, 21, 22], [48, 304, 608])] } := rfl
@[simp] theorem an243 : An.fn 243 = { own := [], keep := [(3, [1, 3, 7, 8], [16, 80, 256])] } := rfl
@[simp] theorem an244 : An.fn 244 = { own := [], keep := [] } := rfl
@[simp] theorem an245 : An.fn 245 = { own := [7], keep := [(3, [1, 3, 4], [16, 112, 704]), (7, [1, 3, 4, 5, 6], [16, 112, 704])] } := rfl
@[simp] theorem an246 : An.fn 246 = { own := [], keep := [(4, [0, 1, 5], [])] } := rfl
@[simp] theorem an247 : An.fn 247 = { own := [], keep := [(2, [1, 2, 5], [32])] } := rfl
@[simp] theorem an248 : An.fn 248 = { own := [33, 35], keep := [(5, [9, 10, 11, 12, 13, 14], [496, 497, 498, 499, 528, 560])] } := rfl
@[simp] theorem an249 : An.fn 249 = { own := [14], keep := [(4, [3, 4, 5, 6, 7, 8, 9], [48, 64, 80, 96, 128, 224, 544])] } := rfl
@[simp] theorem an250 : An.fn 250 = { own := [16, 30, 72, 144], frz := [53, 131], dat := [71, 99, 120, 143], keep := [(1, [0, 2, 6], [256, 848, 849, 850, 851, 1168, 2096, 2097, 2098, 2099, 2320, 100000, 100001, 100002]), (5, [0, 2, 6, 7, 8], [256, 848, 849, 850, 851, 1168, 1584, 1585, 1586, 1587, 1920, 1921, 1922, 1923, 2096, 2097, 2098, 2099, 2320, 100000, 100001, 100002])] } := rfl
@[simp] theorem an251 : An.fn 251 = { own := [7], keep := [(3, [0, 1, 5, 6], [112, 352, 544])] } := rfl
@[simp] theorem an252 : An.fn 252 = { own := [], keep := [] } := rfl
@[simp] theorem an253 : An.fn 253 = { own := [], keep := [] } := rfl
@[simp] theorem an254 : An.fn 254 = { own := [], keep := [(3, [2, 6, 7, 12, 13], [96, 112, 352])] } := rfl
@[simp] theorem an255 : An.fn 255 = { own := [], keep := [] } := rfl
@[simp] theorem an256 : An.fn 256 = { own := [13, 27, 76, 138], frz := [97], dat := [75, 116, 127, 137], keep := [(1, [0, 4], [208, 1232, 1552, 1553, 1554, 1555, 2224, 100000, 100001, 100002])] } := rfl
@[simp] theorem an257 : An.fn 257 = { own := [], keep := [] } := rfl
@[simp] theorem an258 : An.fn 258 = { own := [], keep := [] } := rfl
@[simp] theorem an259 : An.fn 259 = { own := [], keep := [] } := rfl
@[simp] theorem an260 : An.fn 260 = { own := [], keep := [] } := rfl
@[simp] theorem an261 : An.fn 261 = { own := [], keep := [] } := rfl
@[simp] theorem an262 : An.fn 262 = { own := [], keep := [(4, [3, 4, 5, 6, 9, 10, 11, 12], [64, 80, 96])] } := rfl
@[simp] theorem an263 : An.fn 263 = { own := [], keep := [(3, [0, 1, 2, 3, 4, 11, 12], [240])] } := rfl
@[simp] theorem an264 : An.fn 264 = { own := [], keep := [(2, [2, 7, 8, 9], [32])] } := rfl
@[simp] theorem an265 : An.fn 265 = { own := [], keep := [] } := rfl
@[simp] theorem an266 : An.fn 266 = { own := [34], keep := [(5, [3, 4, 6, 9, 10, 11, 30, 31], [64, 96])] } := rfl
@[simp] theorem an267 : An.fn 267 = { own := [], keep := [] } := rfl
@[simp] theorem an268 : An.fn 268 = { own := [], dat := [41, 46], keep := [(5, [2, 3, 4, 8, 10, 26, 27], [48, 64, 400, 401, 402, 403])] } := rfl
@[simp] theorem an269 : An.fn 269 = { own := [], keep := [(3, [0, 1, 5, 6], [288, 289, 290, 291])] } := rfl
@[simp] theorem an270 : An.fn 270 = { own := [6], keep := [(3, [0, 3, 10, 11, 12], [96, 336, 528])] } := rfl
@[simp] theorem an271 : An.fn 271 = { own := [], keep := [(2, [0, 1, 5], [])] } := rfl
@[simp] theorem an272 : An.fn 272 = { own := [7, 9], keep := [] } := rfl
@[simp] theorem an273 : An.fn 273 = { own := [], keep := [] } := rfl
@[simp] theorem an274 : An.fn 274 = { own := [8], keep := [(3, [2, 4, 5, 6], [32, 64, 80, 128, 320])] } := rfl
@[simp] theorem an275 : An.fn 275 = { own := [], keep := [] } := rfl
@[simp] theorem an276 : An.fn 276 = { own := [], keep := [] } := rfl
@[simp] theorem an277 : An.fn 277 = { own := [], keep := [] } := rfl
@[simp] theorem an278 : An.fn 278 = { own := [], keep := [] } := rfl
@[simp] theorem an279 : An.fn 279 = { own := [], keep := [(2, [0, 1, 7, 8], [])] } := rfl
@[simp] theorem an280 : An.fn 280 = { own := [], keep := [] } := rfl
@[simp] theorem an281 : An.fn 281 = { own := [], keep := [(4, [4, 7, 8, 9, 10, 11], [64, 368, 369, 370, 371, 464, 752]), (10, [4, 7, 9, 10, 12, 13], [64, 368, 369, 370, 371, 464, 752, 768, 1120, 1472]), (16, [4, 7, 9, 10, 12, 15], [64, 368, 369, 370, 371, 464, 752, 768, 1120, 1472]), (22, [4, 9, 10, 16, 17, 18], [64, 464, 752, 1600, 1601, 1602, 1603, 1616, 1984])] } := rfl
@[simp] theorem an282 : An.fn 282 = { own := [], keep := [(2, [0, 3], [])] } := rfl
@[simp] theorem an283 : An.fn 283 = { own := [15, 42], keep := [(3, [0, 1, 5, 19, 20, 21], [240, 496]), (10, [0, 5, 8, 36, 37, 38], [240, 496, 528, 576, 577, 578, 579, 960]), (14, [0, 5, 8, 10, 11, 36, 37, 38, 43, 44, 45], [240, 496, 528, 576, 577, 578, 579, 672, 880, 960])] } := rfl
@[simp] theorem an284 : An.fn 284 = { own := [], keep := [(8, [7, 8], [480])] } := rfl
@[simp] theorem an285 : An.fn 285 = { own := [], keep := [(3, [0, 5, 6, 7], [])] } := rfl
@[simp] theorem an286 : An.fn 286 = { own := [], keep := [] } := rfl
@[simp] theorem an287 : An.fn 287 = { own := [], frz := [47], keep := [(3, [0, 1, 6, 18, 19, 20], [224, 752, 753, 754, 755])] } := rfl
@[simp] theorem an288 : An.fn 288 = { own := [5], keep := [] } := rfl
@[simp] theorem an289 : An.fn 289 = { own := [], keep := [(3, [1, 2, 3, 4], [16, 32, 48, 80, 368])] } := rfl
@[simp] theorem an290 : An.fn 290 = { own := [3], keep := [] } := rfl
@[simp] theorem an291 : An.fn 291 = { own := [], keep := [(3, [1, 2, 4, 5, 6], [32, 64, 80, 160, 161, 162, 163]), (7, [1, 2, 4, 5, 6, 7, 8], [32, 64, 80, 160, 161, 162, 163])] } := rfl
@[simp] theorem an292 : An.fn 292 = { own := [], keep := [(3, [5, 6, 7], [176, 177, 178, 179, 192, 416])] } := rfl
@[simp] theorem an293 : An.fn 293 = { own := [], keep := [] } := rfl
@[simp] theorem an294 : An.fn 294 = { own := [], keep := [(3, [1, 3, 4], [16, 112, 352, 353, 354, 355, 448]), (9, [1, 3, 4, 5, 6], [16, 112, 352, 353, 354, 355, 448])] } := rfl
@[simp] theorem an295 : An.fn 295 = { own := [], keep := [(3, [0, 3, 4], [])] } := rfl
@[simp] theorem an296 : An.fn 296 = { own := [7], keep := [] } := rfl
@[simp] theorem an297 : An.fn 297 = { own := [7], keep := [(3, [0, 1, 5, 6], [112, 304, 464])] } := rfl
@[simp] theorem an298 : An.fn 298 = { own := [14], keep := [(3, [0, 1, 4, 5, 10, 11], [64, 80, 496]), (7, [0, 1, 4, 5, 6, 7, 10, 11, 15, 16], [64, 80, 224, 400, 496])] } := rfl
@[simp] theorem an299 : An.fn 299 = { own := [], keep := [] } := rfl
@[simp] theorem an300 : An.fn 300 = { own := [], keep := [] } := rfl
@[simp] theorem an301 : An.fn 301 = { own := [], keep := [] } := rfl
@[simp] theorem an302 : An.fn 302 = { own := [], keep := [] } := rfl
@[simp] theorem an303 : An.fn 303 = { own := [], keep := [] } := rfl
@[simp] theorem an304 : An.fn 304 = { own := [], keep := [(2, [1, 2, 7, 8, 9], [32])] } := rfl
@[simp] theorem an305 : An.fn 305 = { own := [], keep := [] } := rfl
@[simp] theorem an306 : An.fn 306 = { own := [], keep := [(4, [0, 1, 12, 13], [])] } := rfl
@[simp] theorem an307 : An.fn 307 = { own := [10], keep := [(3, [1, 2, 5, 6], [32, 160, 608]), (6, [1, 2, 5, 6, 17, 18, 19], [32, 160, 608])] } := rfl
@[simp] theorem an308 : An.fn 308 = { own := [], keep := [] } := rfl
@[simp] theorem an309 : An.fn 309 = { own := [], keep := [(3, [1, 2, 5, 6], [32])] } := rfl
@[simp] theorem an310 : An.fn 310 = { own := [], keep := [(6, [2, 3, 4, 7, 8, 9], [48, 64, 368, 1488]), (10, [2, 3, 4, 7, 8, 9, 10, 11, 12], [48, 64, 368, 496, 497, 498, 499, 544, 1488]), (13, [2, 3, 4, 7, 8, 9, 10, 11, 12, 13], [48, 64, 368, 496, 497, 498, 499, 544, 1488])] } := rfl
@[simp] theorem an311 : An.fn 311 = { own := [], keep := [(3, [2, 7, 8, 9], [176])] } := rfl
@[simp] theorem an312 : An.fn 312 = { own := [], keep := [(3, [2, 5, 8, 9, 10], [32])] } := rfl
@[simp] theorem an313 : An.fn 313 = { own := [], keep := [(1, [0, 1], [])] } := rfl
@[simp] theorem an314 : An.fn 314 = { own := [], keep := [] } := rfl
@[simp] theorem an315 : An.fn 315 = { own := [], keep := [(2, [2, 3, 4, 10, 11], [48, 64]), (5, [2, 3, 4, 7, 10, 11, 15, 16], [48, 64])] } := rfl
@[simp] theorem an316 : An.fn 316 = { own := [], keep := [(2, [0, 1, 9, 10, 11], [])] } := rfl
@[simp] theorem an317 : An.fn 317 = { own := [], keep := [] } := rfl
@[simp] theorem an318 : An.fn 318 = { own := [], keep := [] } := rfl
@[simp] theorem an319 : An.fn 319 = { own := [], keep := [(4, [0, 1, 5], []), (9, [0, 1, 5, 6, 7], [])] } := rfl
@[simp] theorem an320 : An.fn 320 = { own := [], keep := [] } := rfl
@[simp] theorem an321 : An.fn 321 = { own := [10], keep := [(3, [0, 2, 7, 8], [160])] } := rfl
@[simp] theorem an322 : An.fn 322 = { own := [29], keep := [(3, [2, 3, 4, 7, 8, 9], [48, 64, 208, 896]), (9, [2, 3, 4, 7, 8, 9, 10, 11, 12], [48, 64, 160, 208, 384, 385, 386, 387, 464, 784, 896])] } := rfl
@[simp] theorem an323 : An.fn 323 = { own := [], keep := [(4, [0, 1, 2, 7, 8], [])] } := rfl
@[simp] theorem an324 : An.fn 324 = { own := [], keep := [(2, [0, 1, 7, 8, 9, 10], [])] } := rfl
@[simp] theorem an325 : An.fn 325 = { own := [], keep := [(2, [0, 1, 7, 8], [])] } := rfl
@[simp] theorem an326 : An.fn 326 = { own := [], keep := [] } := rfl
@[simp] theorem an327 : An.fn 327 = { own := [], keep := [(3, [0, 1, 3, 4, 11, 17, 18, 19], [256])] } := rfl
@[simp] theorem an328 : An.fn 328 = { own := [], keep := [(3, [0, 1, 2, 9, 23, 24], []), (6, [0, 1, 2, 9, 10, 23, 24, 30, 31], [])] } := rfl
@[simp] theorem an329 : An.fn 329 = { own := [], keep := [(4, [2, 3, 29, 30, 31], [32, 48]), (10, [2, 3, 42, 43], [32, 48]), (13, [2, 3, 7, 42, 43, 47, 48], [32, 48])] } := rfl
@[simp] theorem an330 : An.fn 330 = { own := [], keep := [(3, [0, 3, 9, 10, 11], []), (11, [6, 25, 26, 27], [384, 385, 386, 387, 528])] } := rfl
@[simp] theorem an331 : An.fn 331 = { own := [], keep := [(5, [0, 1, 5, 6], [100000, 100001, 100002])] } := rfl
@[simp] theorem an332 : An.fn 332 = { own := [5], keep := [(3, [3, 6, 7], [80, 208])] } := rfl
@[simp] theorem an333 : An.fn 333 = { own := [], keep := [] } := rfl
@[simp] theorem an334 : An.fn 334 = { own := [], keep := [(2, [0, 1, 2, 3, 8, 9], [100000, 100001, 100002])] } := rfl
@[simp] theorem an335 : An.fn 335 = { own := [], keep := [] } := rfl
@[simp] theorem an336 : An.fn 336 = { own := [18], keep := [(3, [2, 7, 8, 9], [288, 1136, 1248, 1249, 1250, 1251, 1376, 1392, 1616]), (7, [2, 7, 8, 9, 10, 11, 12, 13], [288, 1136, 1248, 1249, 1250, 1251, 1376, 1392, 1616]), (10, [2, 7, 8, 9, 10, 11, 12, 13, 14], [288, 1136, 1248, 1249, 1250, 1251, 1376, 1392, 1616]), (18, [2, 7, 9], [288, 1136, 1376]), (26, [2, 7, 8, 9, 16, 17], [288, 1136, 1248, 1249, 1250, 1251, 1376, 1392, 1616])] } := rfl
@[simp] theorem an337 : An.fn 337 = { own := [], keep := [(3, [0, 1, 5, 19, 20, 21], [240, 1248, 1600]), (8, [0, 1, 5, 6, 7, 9, 19, 20, 21, 47, 48], [240, 688, 689, 690, 691, 1248, 1600]), (16, [0, 5, 83, 84, 85], [240, 1248, 1600])] } := rfl
@[simp] theorem an338 : An.fn 338 = { own := [30], keep := [(3, [0, 1, 2, 7, 32, 33], [480, 1840, 2032, 6304]), (6, [0, 1, 2, 7, 8, 32, 33, 40, 41], [480, 1840, 2032, 6304]), (11, [0, 1, 2, 7], [480, 1840, 2032, 6304]), (15, [0, 1, 2, 7, 10, 11, 12, 13, 14], [176, 480, 1840, 2032, 6304]), (18, [0, 1, 2, 7, 10, 11, 12, 13, 14, 15], [176, 480, 1840, 2032, 6304]), (26, [0, 2, 7], [480, 1840, 2032, 6304]), (31, [0, 1, 2, 7, 10, 11, 13, 143, 144, 145], [176, 480, 1840, 2032, 6304]), (36, [0, 1, 2, 7, 10, 11, 19], [176, 480, 1840, 2032, 6304]), (39, [0, 1, 2, 7, 10, 11, 19, 189, 190], [176, 480, 1840, 2032, 6304]), (45, [0, 1, 2, 7, 10, 11, 21, 22], [176, 480, 1840, 2032, 6304]), (49, [0, 1, 2, 7, 10, 11, 21, 22, 23, 232, 233], [176, 480, 1840, 2032, 6304]), (55, [0, 1, 2, 7, 10, 11, 21, 25], [176, 480, 1840, 2032, 6304]), (59, [0, 1, 2, 7, 10, 11, 21, 25, 26, 294, 295], [176, 480, 1840, 2032, 6304]), (66, [0, 1, 2, 7, 10, 11, 21, 28], [176, 480, 1840, 2032, 6304]), (70, [0, 1, 2, 7, 10, 11, 28, 362, 363], [176, 480, 1840, 2032, 6304])] } := rfl
@[simp] theorem an339 : An.fn 339 = { own := [], keep := [] } := rfl
@[simp] theorem an340 : An.fn 340 = { own := [], keep := [] } := rfl
@[simp] theorem an341 : An.fn 341 = { own := [14], keep := [(3, [0, 2, 3, 4], [32, 48, 112, 512]), (7, [0, 2, 3, 4, 5, 6], [32, 48, 112, 224, 432, 512])] } := rfl
@[simp] theorem an342 : An.fn 342 = { own := [22], keep := [(3, [2, 3, 4, 5, 6, 7], [32, 48, 64, 96, 192, 1040]), (7, [2, 3, 4, 5, 6, 7, 8, 9], [32, 48, 64, 96, 192, 352, 960, 1040])] } := rfl
@[simp] theorem an343 : An.fn 343 = { own := [22], keep := [(3, [0, 1, 4, 5, 6], [64, 80, 224, 1152]), (7, [0, 1, 4, 5, 6, 7, 8], [64, 80, 224, 352, 1072, 1152])] } := rfl
@[simp] theorem an344 : An.fn 344 = { own := [8], keep := [(3, [0, 1, 5, 6], [128, 336, 337, 338, 339, 384, 448])] } := rfl
@[simp] theorem an345 : An.fn 345 = { own := [], keep := [] } := rfl
@[simp] theorem an346 : An.fn 346 = { own := [], keep := [(3, [1, 2, 5], [32]), (7, [1, 2, 5, 6, 7], [32, 224, 225, 226, 227]), (10, [1, 2, 5, 6, 7, 8], [32, 224, 225, 226, 227])] } := rfl
@[simp] theorem an347 : An.fn 347 = { own := [], keep := [(4, [0, 1, 5], [])] } := rfl
@[simp] theorem an348 : An.fn 348 = { own := [], keep := [(3, [1, 2, 3, 4, 9, 10], [64, 1488, 1489, 1490, 1491]), (6, [1, 2, 3, 4, 9, 10, 11], [64, 1488, 1489, 1490, 1491]), (14, [1, 2, 3, 4, 9, 13], [64, 1488, 1489, 1490, 1491])] } := rfl
@[simp] theorem an349 : An.fn 349 = { own := [], keep := [] } := rfl
@[simp] theorem an350 : An.fn 350 = { own := [], keep := [] } := rfl
@[simp] theorem an351 : An.fn 351 = { own := [], keep := [] } := rfl
@[simp] theorem an352 : An.fn 352 = { own := [], keep := [] } := rfl
@[simp] theorem an353 : An.fn 353 = { own := [], keep := [(2, [0, 1, 2, 3, 4, 10, 11], [])] } := rfl
@[simp] theorem an354 : An.fn 354 = { own := [], keep := [] } := rfl
@[simp] theorem an355 : An.fn 355 = { own := [], keep := [] } := rfl
@[simp] theorem an356 : An.fn 356 = { own := [], keep := [(1, [0, 1], [])] } := rfl
@[simp] theorem an357 : An.fn 357 = { own := [], keep := [] } := rfl
@[simp] theorem an358 : An.fn 358 = { own := [], keep := [] } := rfl
@[simp] theorem an359 : An.fn 359 = { own := [], keep := [(1, [0, 1, 2, 6], [100000, 100001, 100002]), (4, [0, 1, 2, 6, 7], [100000, 100001, 100002])] } := rfl
@[simp] theorem an360 : An.fn 360 = { own := [], keep := [(4, [0, 6, 7, 8, 9], []), (8, [0, 6, 7, 10], [])] } := rfl
@[simp] theorem an361 : An.fn 361 = { own := [], keep := [(5, [0, 1, 6, 7, 8, 9], [112])] } := rfl
@[simp] theorem an362 : An.fn 362 = { own := [], keep := [] } := rfl
@[simp] theorem an363 : An.fn 363 = { own := [], keep := [(2, [0, 6, 7], [])] } := rfl
@[simp] theorem an364 : An.fn 364 = { own := [], keep := [(3, [0, 1, 2, 7, 8], []), (5, [0, 1, 2, 7, 8], []), (14, [0, 1, 2, 7, 8, 9], []), (20, [0, 1, 2, 7, 8, 10], [])] } := rfl
@[simp] theorem an365 : An.fn 365 = { own := [], keep := [] } := rfl
@[simp] theorem an366 : An.fn 366 = { own := [], keep := [(3, [0, 1, 9, 10], []), (5, [0, 1, 9, 10], [])] } := rfl
@[simp] theorem an367 : An.fn 367 = { own := [], keep := [(3, [0, 1, 10, 11], []), (5, [0, 1, 10, 11], []), (13, [0, 1, 10, 11], []), (15, [0, 1, 10, 11], [])] } := rfl
@[simp] theorem an368 : An.fn 368 = { own := [], keep := [] } := rfl
@[simp] theorem an369 : An.fn 369 = { own := [], keep := [] } := rfl
@[simp] theorem an370 : An.fn 370 = { own := [], keep := [(3, [0, 1, 2, 3, 4, 11, 12], [544, 1072, 1168, 1169, 1170, 1171, 1904, 1905, 1906, 1907, 2208, 2209, 2210, 2211, 2496, 2497, 2498, 2499]), (13, [3, 4, 11, 15], [544, 1072, 1168, 1169, 1170, 1171, 1904, 1905, 1906, 1907, 2208, 2209, 2210, 2211, 2496, 2497, 2498, 2499]), (16, [3, 4, 11, 15, 16], [544, 1072, 1168, 1169, 1170, 1171, 1904, 1905, 1906, 1907, 2208, 2209, 2210, 2211, 2496, 2497, 2498, 2499]), (26, [3, 4, 11, 15, 23], [544, 1072, 1168, 1169, 1170, 1171, 1904, 1905, 1906, 1907, 2208, 2209, 2210, 2211, 2496, 2497, 2498, 2499]), (33, [3, 4, 11, 15, 23, 24, 25, 26, 27, 28, 29], [544, 1072, 1168, 1169, 1170, 1171, 1904, 1905, 1906, 1907, 2208, 2209, 2210, 2211, 2496, 2497, 2498, 2499]), (40, [3, 4, 11, 15, 33], [544, 1072, 1168, 1169, 1170, 1171, 1904, 1905, 1906, 1907, 2208, 2209, 2210, 2211, 2496, 2497, 2498, 2499])] } := rfl
@[simp] theorem an371 : An.fn 371 = { own := [], keep := [] } := rfl
@[simp] theorem an372 : An.fn 372 = { own := [], keep := [] } := rfl
@[simp] theorem an373 : An.fn 373 = { own := [], keep := [] } := rfl
@[simp] theorem an374 : An.fn 374 = { own := [], keep := [] } := rfl
@[simp] theorem an375 : An.fn 375 = { own := [], keep := [(1, [0, 1, 2, 3, 8], []), (4, [0, 1, 2, 3, 8, 9], [])] } := rfl
@[simp] theorem an376 : An.fn 376 = { own := [], keep := [(4, [0, 3, 8, 9, 10, 11], []), (8, [0, 3, 8, 9, 12], [])] } := rfl
@[simp] theorem an377 : An.fn 377 = { own := [], keep := [(5, [0, 1, 8, 9, 10, 11], [144])] } := rfl
@[simp] theorem an378 : An.fn 378 = { own := [], keep := [] } := rfl
@[simp] theorem an379 : An.fn 379 = { own := [], keep := [(2, [0, 8, 9], [])] } := rfl
@[simp] theorem an380 : An.fn 380 = { own := [], keep := [(3, [0, 1, 2, 3, 9, 10], []), (5, [0, 1, 2, 3, 9, 10], []), (14, [0, 1, 2, 3, 9, 10, 11], []), (20, [0, 1, 2, 3, 9, 10, 12], [])] } := rfl
@[simp] theorem an381 : An.fn 381 = { own := [], keep := [(3, [0, 1, 4, 11, 12], []), (5, [0, 1, 4, 11, 12], [])] } := rfl
@[simp] theorem an382 : An.fn 382 = { own := [], keep := [(3, [0, 1, 4, 12, 13], []), (5, [0, 1, 4, 12, 13], []), (13, [0, 1, 4, 12, 13], []), (15, [0, 1, 4, 12, 13], [])] } := rfl
@[simp] theorem an383 : An.fn 383 = { own := [], keep := [(1, [0, 2, 3, 8], [])] } := rfl
@[simp] theorem an384 : An.fn 384 = { own := [], keep := [] } := rfl
@[simp] theorem an385 : An.fn 385 = { own := [], keep := [] } := rfl
@[simp] theorem an386 : An.fn 386 = { own := [], keep := [] } := rfl
@[simp] theorem an387 : An.fn 387 = { own := [], keep := [] } := rfl
@[simp] theorem an388 : An.fn 388 = { own := [], keep := [(1, [0, 2, 3, 4, 10], [])] } := rfl
@[simp] theorem an389 : An.fn 389 = { own := [], keep := [] } := rfl
@[simp] theorem an390 : An.fn 390 = { own := [], keep := [] } := rfl
@[simp] theorem an391 : An.fn 391 = { own := [], keep := [] } := rfl
@[simp] theorem an392 : An.fn 392 = { own := [], keep := [] } := rfl
noncomputable def cxAt (k m : Nat) : Cx := { P := Tryz.prog, call := evalCall Tryz.prog An m, lend := An.lend, rounds := m, ann := An.fn k }
@[simp] theorem cxAt_P (k m : Nat) : (cxAt k m).P = Tryz.prog := rfl
@[simp] theorem cxAt_call (k m : Nat) : (cxAt k m).call = evalCall Tryz.prog An m := rfl
@[simp] theorem cxAt_lend (k m : Nat) : (cxAt k m).lend = An.lend := rfl
@[simp] theorem cxAt_rounds (k m : Nat) : (cxAt k m).rounds = m := rfl
@[simp] theorem cxAt_ann (k m : Nat) : (cxAt k m).ann = An.fn k := rfl
theorem evalCall_at (k m : Nat) (args : List AV) (lent : List Ob) : evalCall Tryz.prog An (m + 1) k args lent = bnd (fbody Tryz.prog k) fun fb => bnd (evalCode (cxAt k m) fb.body { env := argEnv 0 args, obs := lentObs 0 lent, g := 1 }) fun r => callRes Tryz.prog lent r fb.results := rfl
end Go.Proofs.YtfichikabolknaaGreatE
