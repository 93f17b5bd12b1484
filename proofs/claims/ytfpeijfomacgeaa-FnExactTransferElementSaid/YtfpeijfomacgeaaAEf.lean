/- Facts of this program's types and functions, as the evaluator asks for them; written by a program of this session. -/
import Derived.Test.YtfpeijfomacgeaaAEd
import Derived.Test.YtfpeijfomacgeaaProg
import Derived.KernelRfl
namespace Go.Proofs.YtfpeijfomacgeaaE
open Go Go.Proofs
@[simp] theorem tk2 : tk Try.prog 2 = TK.int IntKind.i64 := by kernel_rfl
@[simp] theorem sz2 : sz Try.prog 2 = 1 := by kernel_rfl
@[simp] theorem byts2 : byts Try.prog 2 = 8 := by kernel_rfl
@[simp] theorem zer2 : zer Try.prog 2 = some ((AV.d (D.int IntKind.i64 (0)))) := by kernel_rfl
@[simp] theorem tk3 : tk Try.prog 3 = TK.int IntKind.i64 := by kernel_rfl
@[simp] theorem sz3 : sz Try.prog 3 = 1 := by kernel_rfl
@[simp] theorem byts3 : byts Try.prog 3 = 8 := by kernel_rfl
@[simp] theorem zer3 : zer Try.prog 3 = some ((AV.d (D.int IntKind.i64 (0)))) := by kernel_rfl
@[simp] theorem tk4 : tk Try.prog 4 = TK.bool := by kernel_rfl
@[simp] theorem sz4 : sz Try.prog 4 = 1 := by kernel_rfl
@[simp] theorem byts4 : byts Try.prog 4 = 1 := by kernel_rfl
@[simp] theorem zer4 : zer Try.prog 4 = some ((AV.d (D.bool false))) := by kernel_rfl
@[simp] theorem tk5 : tk Try.prog 5 = TK.int IntKind.u8 := by kernel_rfl
@[simp] theorem sz5 : sz Try.prog 5 = 1 := by kernel_rfl
@[simp] theorem byts5 : byts Try.prog 5 = 1 := by kernel_rfl
@[simp] theorem zer5 : zer Try.prog 5 = some ((AV.d (D.int IntKind.u8 (0)))) := by kernel_rfl
@[simp] theorem tk9 : tk Try.prog 9 = TK.string := by kernel_rfl
@[simp] theorem sz9 : sz Try.prog 9 = 1 := by kernel_rfl
@[simp] theorem byts9 : byts Try.prog 9 = 16 := by kernel_rfl
@[simp] theorem zer9 : zer Try.prog 9 = some ((AV.d (D.str ByteArray.empty))) := by kernel_rfl
@[simp] theorem tk22 : tk Try.prog 22 = TK.slice 25 := by kernel_rfl
@[simp] theorem sz22 : sz Try.prog 22 = 1 := by kernel_rfl
@[simp] theorem byts22 : byts Try.prog 22 = 24 := by kernel_rfl
@[simp] theorem zer22 : zer Try.prog 22 = some ((AV.d D.nil)) := by kernel_rfl
@[simp] theorem tk24 : tk Try.prog 24 = TK.struct [(0, 22)] := by kernel_rfl
@[simp] theorem sz24 : sz Try.prog 24 = 1 := by kernel_rfl
@[simp] theorem byts24 : byts Try.prog 24 = 24 := by kernel_rfl
@[simp] theorem zer24 : zer Try.prog 24 = some ((AV.agg [AV.d D.nil])) := by kernel_rfl
@[simp] theorem tk25 : tk Try.prog 25 = TK.slice 2 := by kernel_rfl
@[simp] theorem sz25 : sz Try.prog 25 = 1 := by kernel_rfl
@[simp] theorem byts25 : byts Try.prog 25 = 24 := by kernel_rfl
@[simp] theorem zer25 : zer Try.prog 25 = some ((AV.d D.nil)) := by kernel_rfl
@[simp] theorem tk27 : tk Try.prog 27 = TK.struct [(0, 2), (1, 25)] := by kernel_rfl
@[simp] theorem sz27 : sz Try.prog 27 = 2 := by kernel_rfl
@[simp] theorem byts27 : byts Try.prog 27 = 32 := by kernel_rfl
@[simp] theorem zer27 : zer Try.prog 27 = some ((AV.agg [AV.d (D.int IntKind.i64 (0)), AV.d D.nil])) := by kernel_rfl
@[simp] theorem tk36 : tk Try.prog 36 = TK.struct [(0, 22)] := by kernel_rfl
@[simp] theorem sz36 : sz Try.prog 36 = 1 := by kernel_rfl
@[simp] theorem byts36 : byts Try.prog 36 = 24 := by kernel_rfl
@[simp] theorem zer36 : zer Try.prog 36 = some ((AV.agg [AV.d D.nil])) := by kernel_rfl
@[simp] theorem tk51 : tk Try.prog 51 = TK.struct [(0, 2), (1, 25)] := by kernel_rfl
@[simp] theorem sz51 : sz Try.prog 51 = 2 := by kernel_rfl
@[simp] theorem byts51 : byts Try.prog 51 = 32 := by kernel_rfl
@[simp] theorem zer51 : zer Try.prog 51 = some ((AV.agg [AV.d (D.int IntKind.i64 (0)), AV.d D.nil])) := by kernel_rfl
@[simp] theorem tk86 : tk Try.prog 86 = TK.func := by kernel_rfl
@[simp] theorem sz86 : sz Try.prog 86 = 1 := by kernel_rfl
@[simp] theorem byts86 : byts Try.prog 86 = 8 := by kernel_rfl
@[simp] theorem tk88 : tk Try.prog 88 = TK.func := by kernel_rfl
@[simp] theorem sz88 : sz Try.prog 88 = 1 := by kernel_rfl
@[simp] theorem byts88 : byts Try.prog 88 = 8 := by kernel_rfl
@[simp] theorem tk94 : tk Try.prog 94 = TK.int IntKind.u64 := by kernel_rfl
@[simp] theorem sz94 : sz Try.prog 94 = 1 := by kernel_rfl
@[simp] theorem byts94 : byts Try.prog 94 = 8 := by kernel_rfl
@[simp] theorem zer94 : zer Try.prog 94 = some ((AV.d (D.int IntKind.u64 (0)))) := by kernel_rfl
@[simp] theorem tk106 : tk Try.prog 106 = TK.int IntKind.u64 := by kernel_rfl
@[simp] theorem sz106 : sz Try.prog 106 = 1 := by kernel_rfl
@[simp] theorem byts106 : byts Try.prog 106 = 8 := by kernel_rfl
@[simp] theorem zer106 : zer Try.prog 106 = some ((AV.d (D.int IntKind.u64 (0)))) := by kernel_rfl
@[simp] theorem tk113 : tk Try.prog 113 = TK.slice 27 := by kernel_rfl
@[simp] theorem sz113 : sz Try.prog 113 = 1 := by kernel_rfl
@[simp] theorem byts113 : byts Try.prog 113 = 24 := by kernel_rfl
@[simp] theorem zer113 : zer Try.prog 113 = some ((AV.d D.nil)) := by kernel_rfl
@[simp] theorem tk118 : tk Try.prog 118 = TK.func := by kernel_rfl
@[simp] theorem sz118 : sz Try.prog 118 = 1 := by kernel_rfl
@[simp] theorem byts118 : byts Try.prog 118 = 8 := by kernel_rfl
@[simp] theorem tk119 : tk Try.prog 119 = TK.int IntKind.u32 := by kernel_rfl
@[simp] theorem sz119 : sz Try.prog 119 = 1 := by kernel_rfl
@[simp] theorem byts119 : byts Try.prog 119 = 4 := by kernel_rfl
@[simp] theorem zer119 : zer Try.prog 119 = some ((AV.d (D.int IntKind.u32 (0)))) := by kernel_rfl
@[simp] theorem tk125 : tk Try.prog 125 = TK.int IntKind.i64 := by kernel_rfl
@[simp] theorem sz125 : sz Try.prog 125 = 1 := by kernel_rfl
@[simp] theorem byts125 : byts Try.prog 125 = 8 := by kernel_rfl
@[simp] theorem zer125 : zer Try.prog 125 = some ((AV.d (D.int IntKind.i64 (0)))) := by kernel_rfl
@[simp] theorem tk137 : tk Try.prog 137 = TK.int IntKind.u64 := by kernel_rfl
@[simp] theorem sz137 : sz Try.prog 137 = 1 := by kernel_rfl
@[simp] theorem byts137 : byts Try.prog 137 = 8 := by kernel_rfl
@[simp] theorem zer137 : zer Try.prog 137 = some ((AV.d (D.int IntKind.u64 (0)))) := by kernel_rfl
@[simp] theorem tk141 : tk Try.prog 141 = TK.other := by kernel_rfl
@[simp] theorem sz141 : sz Try.prog 141 = 1 := by kernel_rfl
@[simp] theorem byts141 : byts Try.prog 141 = 8 := by kernel_rfl
@[simp] theorem fb4 : fbody Try.prog 4 = some ⟨bodyOf Try.f4, 122, [.tmp 6]⟩ := by kernel_rfl
@[simp] theorem fb5 : fbody Try.prog 5 = some ⟨bodyOf Try.f5, 117, [.tmp 4]⟩ := by kernel_rfl
@[simp] theorem fb6 : fbody Try.prog 6 = some ⟨bodyOf Try.f6, 117, [.tmp 4]⟩ := by kernel_rfl
@[simp] theorem fb7 : fbody Try.prog 7 = some ⟨bodyOf Try.f7, 140, [.tmp 6]⟩ := by kernel_rfl
@[simp] theorem fb8 : fbody Try.prog 8 = some ⟨bodyOf Try.f8, 60, [.tmp 6]⟩ := by kernel_rfl
@[simp] theorem fb14 : fbody Try.prog 14 = some ⟨bodyOf Try.f14, 12, [.tmp 4]⟩ := by kernel_rfl
@[simp] theorem fb15 : fbody Try.prog 15 = some ⟨bodyOf Try.f15, 33, [.tmp 6, .tmp 7]⟩ := by kernel_rfl
@[simp] theorem fb16 : fbody Try.prog 16 = some ⟨bodyOf Try.f16, 9, [.cell 2 24]⟩ := by kernel_rfl
@[simp] theorem fb17 : fbody Try.prog 17 = some ⟨bodyOf Try.f17, 22, [.tmp 2]⟩ := by kernel_rfl
@[simp] theorem fb18 : fbody Try.prog 18 = some ⟨bodyOf Try.f18, 31, [.tmp 6, .tmp 7]⟩ := by kernel_rfl
@[simp] theorem fb19 : fbody Try.prog 19 = some ⟨bodyOf Try.f19, 26, [.tmp 4]⟩ := by kernel_rfl
@[simp] theorem fb20 : fbody Try.prog 20 = some ⟨bodyOf Try.f20, 11, [.tmp 4]⟩ := by kernel_rfl
@[simp] theorem fb21 : fbody Try.prog 21 = some ⟨bodyOf Try.f21, 10, [.tmp 4]⟩ := by kernel_rfl
@[simp] theorem fb22 : fbody Try.prog 22 = some ⟨bodyOf Try.f22, 19, [.tmp 4]⟩ := by kernel_rfl
@[simp] theorem fb23 : fbody Try.prog 23 = some ⟨bodyOf Try.f23, 21, [.tmp 4]⟩ := by kernel_rfl
@[simp] theorem fb24 : fbody Try.prog 24 = some ⟨bodyOf Try.f24, 17, [.cell 4 24, .tmp 5]⟩ := by kernel_rfl
@[simp] theorem fb25 : fbody Try.prog 25 = some ⟨bodyOf Try.f25, 17, [.cell 4 24, .tmp 5]⟩ := by kernel_rfl
@[simp] theorem fb26 : fbody Try.prog 26 = some ⟨bodyOf Try.f26, 12, [.tmp 4]⟩ := by kernel_rfl
@[simp] theorem fb27 : fbody Try.prog 27 = some ⟨bodyOf Try.f27, 22, [.tmp 4, .tmp 5]⟩ := by kernel_rfl
@[simp] theorem fb28 : fbody Try.prog 28 = some ⟨bodyOf Try.f28, 22, [.tmp 4, .tmp 5]⟩ := by kernel_rfl
@[simp] theorem fb29 : fbody Try.prog 29 = some ⟨bodyOf Try.f29, 12, [.tmp 4]⟩ := by kernel_rfl
@[simp] theorem fb30 : fbody Try.prog 30 = some ⟨bodyOf Try.f30, 20, [.cell 6 27, .tmp 7]⟩ := by kernel_rfl
@[simp] theorem fb31 : fbody Try.prog 31 = some ⟨bodyOf Try.f31, 12, [.cell 2 27]⟩ := by kernel_rfl
@[simp] theorem fb32 : fbody Try.prog 32 = some ⟨bodyOf Try.f32, 21, [.cell 6 27, .tmp 7]⟩ := by kernel_rfl
@[simp] theorem fb33 : fbody Try.prog 33 = some ⟨bodyOf Try.f33, 16, [.tmp 4]⟩ := by kernel_rfl
@[simp] theorem fb34 : fbody Try.prog 34 = some ⟨bodyOf Try.f34, 10, [.tmp 4]⟩ := by kernel_rfl
@[simp] theorem fb35 : fbody Try.prog 35 = some ⟨bodyOf Try.f35, 12, [.tmp 4]⟩ := by kernel_rfl
@[simp] theorem fb36 : fbody Try.prog 36 = some ⟨bodyOf Try.f36, 76, [.tmp 6, .tmp 7]⟩ := by kernel_rfl
@[simp] theorem fb37 : fbody Try.prog 37 = some ⟨bodyOf Try.f37, 73, [.tmp 6, .tmp 7]⟩ := by kernel_rfl
@[simp] theorem fb45 : fbody Try.prog 45 = some ⟨bodyOf Try.f45, 27, [.tmp 4]⟩ := by kernel_rfl
@[simp] theorem fb46 : fbody Try.prog 46 = some ⟨bodyOf Try.f46, 29, [.tmp 4]⟩ := by kernel_rfl
@[simp] theorem fb47 : fbody Try.prog 47 = some ⟨bodyOf Try.f47, 24, [.tmp 4]⟩ := by kernel_rfl
@[simp] theorem fb48 : fbody Try.prog 48 = some ⟨bodyOf Try.f48, 16, [.tmp 4]⟩ := by kernel_rfl
@[simp] theorem fb49 : fbody Try.prog 49 = some ⟨bodyOf Try.f49, 28, [.tmp 6]⟩ := by kernel_rfl
@[simp] theorem fb50 : fbody Try.prog 50 = some ⟨bodyOf Try.f50, 23, [.tmp 2]⟩ := by kernel_rfl
@[simp] theorem fb51 : fbody Try.prog 51 = some ⟨bodyOf Try.f51, 14, [.tmp 4]⟩ := by kernel_rfl
@[simp] theorem fb52 : fbody Try.prog 52 = some ⟨bodyOf Try.f52, 21, [.tmp 4]⟩ := by kernel_rfl
@[simp] theorem fb53 : fbody Try.prog 53 = some ⟨bodyOf Try.f53, 6, [.tmp 2]⟩ := by kernel_rfl
@[simp] theorem fb54 : fbody Try.prog 54 = some ⟨bodyOf Try.f54, 10, [.tmp 4]⟩ := by kernel_rfl
@[simp] theorem fb55 : fbody Try.prog 55 = some ⟨bodyOf Try.f55, 14, [.tmp 6]⟩ := by kernel_rfl
@[simp] theorem fb56 : fbody Try.prog 56 = some ⟨bodyOf Try.f56, 27, [.tmp 4]⟩ := by kernel_rfl
@[simp] theorem fb57 : fbody Try.prog 57 = some ⟨bodyOf Try.f57, 19, [.tmp 4]⟩ := by kernel_rfl
@[simp] theorem fb58 : fbody Try.prog 58 = some ⟨bodyOf Try.f58, 50, [.cell 4 24]⟩ := by kernel_rfl
@[simp] theorem fb59 : fbody Try.prog 59 = some ⟨bodyOf Try.f59, 16, [.tmp 4]⟩ := by kernel_rfl
@[simp] theorem fb60 : fbody Try.prog 60 = some ⟨bodyOf Try.f60, 9, [.cell 4 24]⟩ := by kernel_rfl
@[simp] theorem fb61 : fbody Try.prog 61 = some ⟨bodyOf Try.f61, 21, [.tmp 4]⟩ := by kernel_rfl
@[simp] theorem fb62 : fbody Try.prog 62 = some ⟨bodyOf Try.f62, 61, [.tmp 4, .tmp 5]⟩ := by kernel_rfl
@[simp] theorem fb63 : fbody Try.prog 63 = some ⟨bodyOf Try.f63, 50, [.tmp 4, .tmp 5]⟩ := by kernel_rfl
@[simp] theorem fb64 : fbody Try.prog 64 = some ⟨bodyOf Try.f64, 12, [.tmp 4]⟩ := by kernel_rfl
@[simp] theorem fb65 : fbody Try.prog 65 = some ⟨bodyOf Try.f65, 19, [.tmp 6]⟩ := by kernel_rfl
@[simp] theorem fb66 : fbody Try.prog 66 = some ⟨bodyOf Try.f66, 31, [.cell 4 27]⟩ := by kernel_rfl
@[simp] theorem fb67 : fbody Try.prog 67 = some ⟨bodyOf Try.f67, 31, [.tmp 8]⟩ := by kernel_rfl
@[simp] theorem fb68 : fbody Try.prog 68 = some ⟨bodyOf Try.f68, 13, [.cell 6 27]⟩ := by kernel_rfl
@[simp] theorem fb69 : fbody Try.prog 69 = some ⟨bodyOf Try.f69, 46, [.tmp 2]⟩ := by kernel_rfl
@[simp] theorem fb70 : fbody Try.prog 70 = some ⟨bodyOf Try.f70, 40, [.tmp 10, .tmp 11]⟩ := by kernel_rfl
@[simp] theorem fb71 : fbody Try.prog 71 = some ⟨bodyOf Try.f71, 9, [.tmp 2]⟩ := by kernel_rfl
@[simp] theorem fb72 : fbody Try.prog 72 = some ⟨bodyOf Try.f72, 24, [.tmp 4]⟩ := by kernel_rfl
@[simp] theorem fb73 : fbody Try.prog 73 = some ⟨bodyOf Try.f73, 11, [.tmp 4]⟩ := by kernel_rfl
@[simp] theorem fb77 : fbody Try.prog 77 = some ⟨bodyOf Try.f77, 35, [.cell 4 24]⟩ := by kernel_rfl
@[simp] theorem fb80 : fbody Try.prog 80 = some ⟨bodyOf Try.f80, 48, [.tmp 4]⟩ := by kernel_rfl
@[simp] theorem fb81 : fbody Try.prog 81 = some ⟨bodyOf Try.f81, 137, [.tmp 2]⟩ := by kernel_rfl
@[simp] theorem fb82 : fbody Try.prog 82 = some ⟨bodyOf Try.f82, 15, [.tmp 6]⟩ := by kernel_rfl
@[simp] theorem fb83 : fbody Try.prog 83 = some ⟨bodyOf Try.f83, 6, [.tmp 2]⟩ := by kernel_rfl
@[simp] theorem fb84 : fbody Try.prog 84 = some ⟨bodyOf Try.f84, 23, [.tmp 4]⟩ := by kernel_rfl
@[simp] theorem fb85 : fbody Try.prog 85 = some ⟨bodyOf Try.f85, 24, [.tmp 6]⟩ := by kernel_rfl
@[simp] theorem fb86 : fbody Try.prog 86 = some ⟨bodyOf Try.f86, 21, [.tmp 2]⟩ := by kernel_rfl
@[simp] theorem fb87 : fbody Try.prog 87 = some ⟨bodyOf Try.f87, 110, [.tmp 2]⟩ := by kernel_rfl
@[simp] theorem fb88 : fbody Try.prog 88 = some ⟨bodyOf Try.f88, 30, [.tmp 4]⟩ := by kernel_rfl
@[simp] theorem fb89 : fbody Try.prog 89 = some ⟨bodyOf Try.f89, 26, [.tmp 4]⟩ := by kernel_rfl
@[simp] theorem fb90 : fbody Try.prog 90 = some ⟨bodyOf Try.f90, 43, [.tmp 4]⟩ := by kernel_rfl
@[simp] theorem fb91 : fbody Try.prog 91 = some ⟨bodyOf Try.f91, 23, [.tmp 4]⟩ := by kernel_rfl
@[simp] theorem fb92 : fbody Try.prog 92 = some ⟨bodyOf Try.f92, 9, [.tmp 4]⟩ := by kernel_rfl
@[simp] theorem fb93 : fbody Try.prog 93 = some ⟨bodyOf Try.f93, 15, [.tmp 6]⟩ := by kernel_rfl
@[simp] theorem fb94 : fbody Try.prog 94 = some ⟨bodyOf Try.f94, 11, []⟩ := by kernel_rfl
@[simp] theorem fb95 : fbody Try.prog 95 = some ⟨bodyOf Try.f95, 19, [.tmp 4]⟩ := by kernel_rfl
@[simp] theorem fb96 : fbody Try.prog 96 = some ⟨bodyOf Try.f96, 20, [.tmp 6]⟩ := by kernel_rfl
@[simp] theorem fb97 : fbody Try.prog 97 = some ⟨bodyOf Try.f97, 19, [.tmp 4]⟩ := by kernel_rfl
@[simp] theorem fb98 : fbody Try.prog 98 = some ⟨bodyOf Try.f98, 90, [.tmp 4]⟩ := by kernel_rfl
@[simp] theorem fb99 : fbody Try.prog 99 = some ⟨bodyOf Try.f99, 9, [.tmp 4]⟩ := by kernel_rfl
@[simp] theorem fb100 : fbody Try.prog 100 = some ⟨bodyOf Try.f100, 12, [.cell 6 27]⟩ := by kernel_rfl
@[simp] theorem fb101 : fbody Try.prog 101 = some ⟨bodyOf Try.f101, 22, [.tmp 4]⟩ := by kernel_rfl
@[simp] theorem fb102 : fbody Try.prog 102 = some ⟨bodyOf Try.f102, 6, [.tmp 2]⟩ := by kernel_rfl
@[simp] theorem fb105 : fbody Try.prog 105 = some ⟨bodyOf Try.f105, 30, [.tmp 4, .tmp 5]⟩ := by kernel_rfl
@[simp] theorem fb106 : fbody Try.prog 106 = some ⟨bodyOf Try.f106, 51, [.tmp 4]⟩ := by kernel_rfl
@[simp] theorem fb107 : fbody Try.prog 107 = some ⟨bodyOf Try.f107, 20, [.tmp 2]⟩ := by kernel_rfl
@[simp] theorem fb108 : fbody Try.prog 108 = some ⟨bodyOf Try.f108, 9, [.tmp 4]⟩ := by kernel_rfl
@[simp] theorem fb109 : fbody Try.prog 109 = some ⟨bodyOf Try.f109, 134, []⟩ := by kernel_rfl
@[simp] theorem fb110 : fbody Try.prog 110 = some ⟨bodyOf Try.f110, 8, [.tmp 2]⟩ := by kernel_rfl
@[simp] theorem fb111 : fbody Try.prog 111 = some ⟨bodyOf Try.f111, 17, [.tmp 4]⟩ := by kernel_rfl
@[simp] theorem fb112 : fbody Try.prog 112 = some ⟨bodyOf Try.f112, 23, [.tmp 4]⟩ := by kernel_rfl
@[simp] theorem fb113 : fbody Try.prog 113 = some ⟨bodyOf Try.f113, 26, [.cell 6 27]⟩ := by kernel_rfl
@[simp] theorem fb114 : fbody Try.prog 114 = some ⟨bodyOf Try.f114, 13, [.tmp 4]⟩ := by kernel_rfl
@[simp] theorem fb115 : fbody Try.prog 115 = some ⟨bodyOf Try.f115, 10, [.tmp 4]⟩ := by kernel_rfl
@[simp] theorem fb116 : fbody Try.prog 116 = some ⟨bodyOf Try.f116, 10, [.tmp 3]⟩ := by kernel_rfl
@[simp] theorem fb117 : fbody Try.prog 117 = some ⟨bodyOf Try.f117, 9, [.tmp 4]⟩ := by kernel_rfl
@[simp] theorem fb118 : fbody Try.prog 118 = some ⟨bodyOf Try.f118, 16, [.tmp 2]⟩ := by kernel_rfl
@[simp] theorem fb119 : fbody Try.prog 119 = some ⟨bodyOf Try.f119, 16, [.tmp 4]⟩ := by kernel_rfl
@[simp] theorem fb122 : fbody Try.prog 122 = some ⟨bodyOf Try.f122, 17, [.tmp 4, .tmp 5]⟩ := by kernel_rfl
@[simp] theorem fb123 : fbody Try.prog 123 = some ⟨bodyOf Try.f123, 51, [.tmp 4, .tmp 5]⟩ := by kernel_rfl
@[simp] theorem fb124 : fbody Try.prog 124 = some ⟨bodyOf Try.f124, 49, []⟩ := by kernel_rfl
@[simp] theorem fb125 : fbody Try.prog 125 = some ⟨bodyOf Try.f125, 56, []⟩ := by kernel_rfl
@[simp] theorem fb126 : fbody Try.prog 126 = some ⟨bodyOf Try.f126, 65, []⟩ := by kernel_rfl
@[simp] theorem fb127 : fbody Try.prog 127 = some ⟨bodyOf Try.f127, 57, [.tmp 6, .tmp 7]⟩ := by kernel_rfl
@[simp] theorem fb128 : fbody Try.prog 128 = some ⟨bodyOf Try.f128, 32, []⟩ := by kernel_rfl
@[simp] theorem fb129 : fbody Try.prog 129 = some ⟨bodyOf Try.f129, 133, [.tmp 6]⟩ := by kernel_rfl
@[simp] theorem fb130 : fbody Try.prog 130 = some ⟨bodyOf Try.f130, 17, [.tmp 4]⟩ := by kernel_rfl
@[simp] theorem fb131 : fbody Try.prog 131 = some ⟨bodyOf Try.f131, 84, [.tmp 8]⟩ := by kernel_rfl
@[simp] theorem fb132 : fbody Try.prog 132 = some ⟨bodyOf Try.f132, 168, [.tmp 8, .tmp 9]⟩ := by kernel_rfl
@[simp] theorem fb133 : fbody Try.prog 133 = some ⟨bodyOf Try.f133, 19, [.tmp 2]⟩ := by kernel_rfl
@[simp] theorem fb134 : fbody Try.prog 134 = some ⟨bodyOf Try.f134, 25, [.tmp 2]⟩ := by kernel_rfl
@[simp] theorem fb135 : fbody Try.prog 135 = some ⟨bodyOf Try.f135, 77, [.tmp 4]⟩ := by kernel_rfl
@[simp] theorem fb136 : fbody Try.prog 136 = some ⟨bodyOf Try.f136, 42, [.tmp 4]⟩ := by kernel_rfl
@[simp] theorem fb137 : fbody Try.prog 137 = some ⟨bodyOf Try.f137, 8, [.tmp 3]⟩ := by kernel_rfl
@[simp] theorem fb138 : fbody Try.prog 138 = some ⟨bodyOf Try.f138, 19, [.tmp 4]⟩ := by kernel_rfl
@[simp] theorem fb139 : fbody Try.prog 139 = some ⟨bodyOf Try.f139, 76, []⟩ := by kernel_rfl
@[simp] theorem fb140 : fbody Try.prog 140 = some ⟨bodyOf Try.f140, 7, [.tmp 2]⟩ := by kernel_rfl
@[simp] theorem fb141 : fbody Try.prog 141 = some ⟨bodyOf Try.f141, 33, [.tmp 2]⟩ := by kernel_rfl
@[simp] theorem fb142 : fbody Try.prog 142 = some ⟨bodyOf Try.f142, 15, [.tmp 6]⟩ := by kernel_rfl
@[simp] theorem fb143 : fbody Try.prog 143 = some ⟨bodyOf Try.f143, 36, [.tmp 10]⟩ := by kernel_rfl
@[simp] theorem fb144 : fbody Try.prog 144 = some ⟨bodyOf Try.f144, 6, [.tmp 2]⟩ := by kernel_rfl
@[simp] theorem fb145 : fbody Try.prog 145 = some ⟨bodyOf Try.f145, 9, [.tmp 2]⟩ := by kernel_rfl
@[simp] theorem fb146 : fbody Try.prog 146 = some ⟨bodyOf Try.f146, 18, [.tmp 4]⟩ := by kernel_rfl
@[simp] theorem fb147 : fbody Try.prog 147 = some ⟨bodyOf Try.f147, 28, [.tmp 8, .tmp 9]⟩ := by kernel_rfl
@[simp] theorem fb148 : fbody Try.prog 148 = some ⟨bodyOf Try.f148, 12, [.tmp 4]⟩ := by kernel_rfl
def annL : List (Nat × FAnn) := [
  (4, { own := [], keep := [] }),
  (5, { own := [], keep := [] }),
  (6, { own := [], keep := [] }),
  (7, { own := [], keep := [] }),
  (8, { own := [], keep := [] }),
  (14, { own := [], keep := [] }),
  (15, { own := [], keep := [] }),
  (16, { own := [], keep := [] }),
  (17, { own := [], keep := [(3, [0, 3, 4], [112])] }),
  (18, { own := [], keep := [] }),
  (19, { own := [], keep := [(4, [0, 1, 5], [])] }),
  (20, { own := [], keep := [] }),
  (21, { own := [], keep := [] }),
  (22, { own := [], keep := [(2, [0, 1, 5], [100000, 100001, 100002])] }),
  (23, { own := [], keep := [(2, [0, 1, 5], [])] }),
  (24, { own := [], keep := [] }),
  (25, { own := [], keep := [] }),
  (26, { own := [], keep := [] }),
  (27, { own := [], keep := [] }),
  (28, { own := [], keep := [] }),
  (29, { own := [], keep := [] }),
  (30, { own := [], keep := [] }),
  (31, { own := [], keep := [] }),
  (32, { own := [], keep := [] }),
  (33, { own := [], keep := [] }),
  (34, { own := [], keep := [] }),
  (35, { own := [], keep := [] }),
  (36, { own := [], keep := [(13, [2, 3, 9, 10, 11, 12], [48, 736, 737, 738, 739])] }),
  (37, { own := [], keep := [(11, [2, 3, 9, 10, 11, 46, 47, 48], [48, 688, 689, 690, 691])] }),
  (45, { own := [], keep := [(5, [0, 1, 5], [])] }),
  (46, { own := [], keep := [(5, [1, 6], [])] }),
  (47, { own := [], keep := [(4, [1, 2, 5], [32])] }),
  (48, { own := [], keep := [] }),
  (49, { own := [], keep := [(3, [1, 2, 3, 7, 8], [48])] }),
  (50, { own := [], keep := [(3, [0, 3, 4], [112, 320, 321, 322, 323])] }),
  (51, { own := [], keep := [] }),
  (52, { own := [], keep := [(2, [0, 7, 8, 9], [])] }),
  (53, { own := [], keep := [] }),
  (54, { own := [], keep := [] }),
  (55, { own := [], keep := [] }),
  (56, { own := [], keep := [(4, [0, 1, 5], [])] }),
  (57, { own := [], keep := [(2, [0, 1, 5], [100000, 100001, 100002])] }),
  (58, { own := [17], keep := [(3, [1, 2, 4, 5, 6], [32, 64, 80, 144, 752]), (7, [1, 2, 4, 5, 6, 7, 8], [32, 64, 80, 144, 272, 672, 752])] }),
  (59, { own := [], keep := [] }),
  (60, { own := [], keep := [] }),
  (61, { own := [], keep := [(2, [0, 1, 5], [])] }),
  (62, { own := [15], keep := [(4, [1, 2, 6, 7, 8, 9], [32, 224, 240, 928]), (8, [1, 2, 6, 7, 8, 9, 10], [32, 224, 240, 928])] }),
  (63, { own := [11], keep := [(3, [1, 2, 6, 7, 18, 19], [32, 176, 256, 257, 258, 259, 736]), (7, [1, 2, 6, 7, 8, 18, 19, 27, 28, 29], [32, 176, 256, 257, 258, 259, 736])] }),
  (64, { own := [], keep := [] }),
  (65, { own := [], keep := [] }),
  (66, { own := [9], keep := [(3, [1, 2, 4, 5, 6], [32, 64, 80, 144, 448])] }),
  (67, { own := [], keep := [] }),
  (68, { own := [], keep := [] }),
  (69, { own := [7], keep := [(3, [1, 3, 4], [16, 112, 704]), (7, [1, 3, 4, 5, 6], [16, 112, 704])] }),
  (70, { own := [], keep := [] }),
  (71, { own := [], keep := [] }),
  (72, { own := [], keep := [(3, [2, 5, 8, 9, 10], [32])] }),
  (73, { own := [], keep := [] }),
  (77, { own := [14], keep := [(3, [0, 1, 4, 5, 10, 11], [64, 80, 496]), (7, [0, 1, 4, 5, 6, 7, 10, 11, 15, 16], [64, 80, 224, 400, 496])] }),
  (80, { own := [], keep := [(8, [7, 8], [480])] }),
  (81, { own := [], keep := [(5, [1, 3, 4], [16]), (10, [1, 3, 4, 5], [16]), (15, [1, 3, 6], [16]), (21, [1, 3, 6, 7, 8], [16]), (25, [1, 3, 6, 7, 8, 9], [16])] }),
  (82, { own := [], keep := [] }),
  (83, { own := [], keep := [] }),
  (84, { own := [], keep := [] }),
  (85, { own := [], keep := [] }),
  (86, { own := [5], keep := [(3, [0, 3, 4], [80, 304])] }),
  (87, { own := [], keep := [(5, [1, 3, 18, 19, 20], [16]), (11, [1, 3, 35, 36], [16]), (16, [1, 3, 6, 35, 36, 68, 69], [16]), (19, [1, 3, 6, 7, 35, 36, 68, 69, 72, 73], [16])] }),
  (88, { own := [], keep := [(2, [1, 2, 7, 8, 9], [32])] }),
  (89, { own := [], keep := [(4, [0, 1, 12, 13], [])] }),
  (90, { own := [10], keep := [(3, [1, 2, 5, 6], [32, 160, 608]), (6, [1, 2, 5, 6, 17, 18, 19], [32, 160, 608])] }),
  (91, { own := [8], keep := [(3, [1, 5, 9, 10, 11], [128, 320])] }),
  (92, { own := [], keep := [] }),
  (93, { own := [], keep := [] }),
  (94, { own := [], keep := [] }),
  (95, { own := [], keep := [(2, [0, 1, 5], [])] }),
  (96, { own := [], keep := [] }),
  (97, { own := [], keep := [(2, [0, 1, 7, 8], [])] }),
  (98, { own := [], keep := [(4, [2, 3, 5], [32, 48]), (9, [2, 3, 6], [32, 48]), (12, [2, 3, 6, 7], [32, 48])] }),
  (99, { own := [], keep := [] }),
  (100, { own := [], keep := [] }),
  (101, { own := [], keep := [(2, [1, 2, 5], [32])] }),
  (102, { own := [], keep := [] }),
  (105, { own := [], keep := [] }),
  (106, { own := [], keep := [(3, [1, 2, 5], [32]), (7, [1, 2, 5, 6, 7], [32, 224, 225, 226, 227]), (10, [1, 2, 5, 6, 7, 8], [32, 224, 225, 226, 227])] }),
  (107, { own := [], keep := [(3, [0, 3, 4], [])] }),
  (108, { own := [], keep := [] }),
  (109, { own := [], keep := [(2, [0, 1, 2, 3, 8, 9], [100000, 100001, 100002])] }),
  (110, { own := [], keep := [] }),
  (111, { own := [], keep := [(1, [0, 1], [])] }),
  (112, { own := [], keep := [(2, [2, 7, 8, 9], [32])] }),
  (113, { own := [], keep := [(3, [2, 6, 7, 12, 13], [96, 112, 352])] }),
  (114, { own := [], keep := [] }),
  (115, { own := [], keep := [] }),
  (116, { own := [], keep := [] }),
  (117, { own := [], keep := [] }),
  (118, { own := [5], keep := [(3, [3, 6, 7], [80, 208])] }),
  (119, { own := [], keep := [] }),
  (122, { own := [], keep := [] }),
  (123, { own := [], keep := [] }),
  (124, { own := [], keep := [(1, [0, 1, 2, 6], [100000, 100001, 100002]), (4, [0, 1, 2, 6, 7], [100000, 100001, 100002])] }),
  (125, { own := [], keep := [(4, [0, 6, 7, 8, 9], []), (8, [0, 6, 7, 10], [])] }),
  (126, { own := [], keep := [(5, [0, 1, 6, 7, 8, 9], [112])] }),
  (127, { own := [], keep := [] }),
  (128, { own := [], keep := [(2, [0, 6, 7], [])] }),
  (129, { own := [], keep := [(3, [0, 1, 2, 7, 8], []), (5, [0, 1, 2, 7, 8], []), (14, [0, 1, 2, 7, 8, 9], []), (20, [0, 1, 2, 7, 8, 10], [])] }),
  (130, { own := [], keep := [] }),
  (131, { own := [], keep := [(3, [0, 1, 9, 10], []), (5, [0, 1, 9, 10], [])] }),
  (132, { own := [], keep := [(3, [0, 1, 10, 11], []), (5, [0, 1, 10, 11], []), (13, [0, 1, 10, 11], []), (15, [0, 1, 10, 11], [])] }),
  (133, { own := [], keep := [] }),
  (134, { own := [], keep := [] }),
  (135, { own := [], keep := [(4, [2, 3, 29, 30, 31], [32, 48]), (10, [2, 3, 42, 43], [32, 48]), (13, [2, 3, 7, 42, 43, 47, 48], [32, 48])] }),
  (136, { own := [], keep := [(5, [0, 1, 5, 6], [100000, 100001, 100002])] }),
  (137, { own := [], keep := [] }),
  (138, { own := [], keep := [(2, [0, 1, 7, 8], [])] }),
  (139, { own := [], keep := [(1, [0, 2, 3, 8], [])] }),
  (140, { own := [], keep := [] }),
  (141, { own := [], keep := [] }),
  (142, { own := [], keep := [] }),
  (143, { own := [], keep := [] }),
  (144, { own := [], keep := [] }),
  (145, { own := [], keep := [] }),
  (146, { own := [], keep := [] }),
  (147, { own := [], keep := [] }),
  (148, { own := [], keep := [(1, [0, 1], [])] })]
def An : Ann := { lend := [21, 22, 34, 57, 94, 109, 124, 136], fn := fun k => (lookL annL k).getD {} }
@[simp] theorem an_lend : An.lend = [21, 22, 34, 57, 94, 109, 124, 136] := rfl
@[simp] theorem an4 : An.fn 4 = { own := [], keep := [] } := rfl
@[simp] theorem an5 : An.fn 5 = { own := [], keep := [] } := rfl
@[simp] theorem an6 : An.fn 6 = { own := [], keep := [] } := rfl
@[simp] theorem an7 : An.fn 7 = { own := [], keep := [] } := rfl
@[simp] theorem an8 : An.fn 8 = { own := [], keep := [] } := rfl
@[simp] theorem an14 : An.fn 14 = { own := [], keep := [] } := rfl
@[simp] theorem an15 : An.fn 15 = { own := [], keep := [] } := rfl
@[simp] theorem an16 : An.fn 16 = { own := [], keep := [] } := rfl
@[simp] theorem an17 : An.fn 17 = { own := [], keep := [(3, [0, 3, 4], [112])] } := rfl
@[simp] theorem an18 : An.fn 18 = { own := [], keep := [] } := rfl
@[simp] theorem an19 : An.fn 19 = { own := [], keep := [(4, [0, 1, 5], [])] } := rfl
@[simp] theorem an20 : An.fn 20 = { own := [], keep := [] } := rfl
@[simp] theorem an21 : An.fn 21 = { own := [], keep := [] } := rfl
@[simp] theorem an22 : An.fn 22 = { own := [], keep := [(2, [0, 1, 5], [100000, 100001, 100002])] } := rfl
@[simp] theorem an23 : An.fn 23 = { own := [], keep := [(2, [0, 1, 5], [])] } := rfl
@[simp] theorem an24 : An.fn 24 = { own := [], keep := [] } := rfl
@[simp] theorem an25 : An.fn 25 = { own := [], keep := [] } := rfl
@[simp] theorem an26 : An.fn 26 = { own := [], keep := [] } := rfl
@[simp] theorem an27 : An.fn 27 = { own := [], keep := [] } := rfl
@[simp] theorem an28 : An.fn 28 = { own := [], keep := [] } := rfl
@[simp] theorem an29 : An.fn 29 = { own := [], keep := [] } := rfl
@[simp] theorem an30 : An.fn 30 = { own := [], keep := [] } := rfl
@[simp] theorem an31 : An.fn 31 = { own := [], keep := [] } := rfl
@[simp] theorem an32 : An.fn 32 = { own := [], keep := [] } := rfl
@[simp] theorem an33 : An.fn 33 = { own := [], keep := [] } := rfl
@[simp] theorem an34 : An.fn 34 = { own := [], keep := [] } := rfl
@[simp] theorem an35 : An.fn 35 = { own := [], keep := [] } := rfl
@[simp] theorem an36 : An.fn 36 = { own := [], keep := [(13, [2, 3, 9, 10, 11, 12], [48, 736, 737, 738, 739])] } := rfl
@[simp] theorem an37 : An.fn 37 = { own := [], keep := [(11, [2, 3, 9, 10, 11, 46, 47, 48], [48, 688, 689, 690, 691])] } := rfl
@[simp] theorem an45 : An.fn 45 = { own := [], keep := [(5, [0, 1, 5], [])] } := rfl
@[simp] theorem an46 : An.fn 46 = { own := [], keep := [(5, [1, 6], [])] } := rfl
@[simp] theorem an47 : An.fn 47 = { own := [], keep := [(4, [1, 2, 5], [32])] } := rfl
@[simp] theorem an48 : An.fn 48 = { own := [], keep := [] } := rfl
@[simp] theorem an49 : An.fn 49 = { own := [], keep := [(3, [1, 2, 3, 7, 8], [48])] } := rfl
@[simp] theorem an50 : An.fn 50 = { own := [], keep := [(3, [0, 3, 4], [112, 320, 321, 322, 323])] } := rfl
@[simp] theorem an51 : An.fn 51 = { own := [], keep := [] } := rfl
@[simp] theorem an52 : An.fn 52 = { own := [], keep := [(2, [0, 7, 8, 9], [])] } := rfl
@[simp] theorem an53 : An.fn 53 = { own := [], keep := [] } := rfl
@[simp] theorem an54 : An.fn 54 = { own := [], keep := [] } := rfl
@[simp] theorem an55 : An.fn 55 = { own := [], keep := [] } := rfl
@[simp] theorem an56 : An.fn 56 = { own := [], keep := [(4, [0, 1, 5], [])] } := rfl
@[simp] theorem an57 : An.fn 57 = { own := [], keep := [(2, [0, 1, 5], [100000, 100001, 100002])] } := rfl
@[simp] theorem an58 : An.fn 58 = { own := [17], keep := [(3, [1, 2, 4, 5, 6], [32, 64, 80, 144, 752]), (7, [1, 2, 4, 5, 6, 7, 8], [32, 64, 80, 144, 272, 672, 752])] } := rfl
@[simp] theorem an59 : An.fn 59 = { own := [], keep := [] } := rfl
@[simp] theorem an60 : An.fn 60 = { own := [], keep := [] } := rfl
@[simp] theorem an61 : An.fn 61 = { own := [], keep := [(2, [0, 1, 5], [])] } := rfl
@[simp] theorem an62 : An.fn 62 = { own := [15], keep := [(4, [1, 2, 6, 7, 8, 9], [32, 224, 240, 928]), (8, [1, 2, 6, 7, 8, 9, 10], [32, 224, 240, 928])] } := rfl
@[simp] theorem an63 : An.fn 63 = { own := [11], keep := [(3, [1, 2, 6, 7, 18, 19], [32, 176, 256, 257, 258, 259, 736]), (7, [1, 2, 6, 7, 8, 18, 19, 27, 28, 29], [32, 176, 256, 257, 258, 259, 736])] } := rfl
@[simp] theorem an64 : An.fn 64 = { own := [], keep := [] } := rfl
@[simp] theorem an65 : An.fn 65 = { own := [], keep := [] } := rfl
@[simp] theorem an66 : An.fn 66 = { own := [9], keep := [(3, [1, 2, 4, 5, 6], [32, 64, 80, 144, 448])] } := rfl
@[simp] theorem an67 : An.fn 67 = { own := [], keep := [] } := rfl
@[simp] theorem an68 : An.fn 68 = { own := [], keep := [] } := rfl
@[simp] theorem an69 : An.fn 69 = { own := [7], keep := [(3, [1, 3, 4], [16, 112, 704]), (7, [1, 3, 4, 5, 6], [16, 112, 704])] } := rfl
@[simp] theorem an70 : An.fn 70 = { own := [], keep := [] } := rfl
@[simp] theorem an71 : An.fn 71 = { own := [], keep := [] } := rfl
@[simp] theorem an72 : An.fn 72 = { own := [], keep := [(3, [2, 5, 8, 9, 10], [32])] } := rfl
@[simp] theorem an73 : An.fn 73 = { own := [], keep := [] } := rfl
@[simp] theorem an77 : An.fn 77 = { own := [14], keep := [(3, [0, 1, 4, 5, 10, 11], [64, 80, 496]), (7, [0, 1, 4, 5, 6, 7, 10, 11, 15, 16], [64, 80, 224, 400, 496])] } := rfl
@[simp] theorem an80 : An.fn 80 = { own := [], keep := [(8, [7, 8], [480])] } := rfl
@[simp] theorem an81 : An.fn 81 = { own := [], keep := [(5, [1, 3, 4], [16]), (10, [1, 3, 4, 5], [16]), (15, [1, 3, 6], [16]), (21, [1, 3, 6, 7, 8], [16]), (25, [1, 3, 6, 7, 8, 9], [16])] } := rfl
@[simp] theorem an82 : An.fn 82 = { own := [], keep := [] } := rfl
@[simp] theorem an83 : An.fn 83 = { own := [], keep := [] } := rfl
@[simp] theorem an84 : An.fn 84 = { own := [], keep := [] } := rfl
@[simp] theorem an85 : An.fn 85 = { own := [], keep := [] } := rfl
@[simp] theorem an86 : An.fn 86 = { own := [5], keep := [(3, [0, 3, 4], [80, 304])] } := rfl
@[simp] theorem an87 : An.fn 87 = { own := [], keep := [(5, [1, 3, 18, 19, 20], [16]), (11, [1, 3, 35, 36], [16]), (16, [1, 3, 6, 35, 36, 68, 69], [16]), (19, [1, 3, 6, 7, 35, 36, 68, 69, 72, 73], [16])] } := rfl
@[simp] theorem an88 : An.fn 88 = { own := [], keep := [(2, [1, 2, 7, 8, 9], [32])] } := rfl
@[simp] theorem an89 : An.fn 89 = { own := [], keep := [(4, [0, 1, 12, 13], [])] } := rfl
@[simp] theorem an90 : An.fn 90 = { own := [10], keep := [(3, [1, 2, 5, 6], [32, 160, 608]), (6, [1, 2, 5, 6, 17, 18, 19], [32, 160, 608])] } := rfl
@[simp] theorem an91 : An.fn 91 = { own := [8], keep := [(3, [1, 5, 9, 10, 11], [128, 320])] } := rfl
@[simp] theorem an92 : An.fn 92 = { own := [], keep := [] } := rfl
@[simp] theorem an93 : An.fn 93 = { own := [], keep := [] } := rfl
@[simp] theorem an94 : An.fn 94 = { own := [], keep := [] } := rfl
@[simp] theorem an95 : An.fn 95 = { own := [], keep := [(2, [0, 1, 5], [])] } := rfl
@[simp] theorem an96 : An.fn 96 = { own := [], keep := [] } := rfl
@[simp] theorem an97 : An.fn 97 = { own := [], keep := [(2, [0, 1, 7, 8], [])] } := rfl
@[simp] theorem an98 : An.fn 98 = { own := [], keep := [(4, [2, 3, 5], [32, 48]), (9, [2, 3, 6], [32, 48]), (12, [2, 3, 6, 7], [32, 48])] } := rfl
@[simp] theorem an99 : An.fn 99 = { own := [], keep := [] } := rfl
@[simp] theorem an100 : An.fn 100 = { own := [], keep := [] } := rfl
@[simp] theorem an101 : An.fn 101 = { own := [], keep := [(2, [1, 2, 5], [32])] } := rfl
@[simp] theorem an102 : An.fn 102 = { own := [], keep := [] } := rfl
@[simp] theorem an105 : An.fn 105 = { own := [], keep := [] } := rfl
@[simp] theorem an106 : An.fn 106 = { own := [], keep := [(3, [1, 2, 5], [32]), (7, [1, 2, 5, 6, 7], [32, 224, 225, 226, 227]), (10, [1, 2, 5, 6, 7, 8], [32, 224, 225, 226, 227])] } := rfl
@[simp] theorem an107 : An.fn 107 = { own := [], keep := [(3, [0, 3, 4], [])] } := rfl
@[simp] theorem an108 : An.fn 108 = { own := [], keep := [] } := rfl
@[simp] theorem an109 : An.fn 109 = { own := [], keep := [(2, [0, 1, 2, 3, 8, 9], [100000, 100001, 100002])] } := rfl
@[simp] theorem an110 : An.fn 110 = { own := [], keep := [] } := rfl
@[simp] theorem an111 : An.fn 111 = { own := [], keep := [(1, [0, 1], [])] } := rfl
@[simp] theorem an112 : An.fn 112 = { own := [], keep := [(2, [2, 7, 8, 9], [32])] } := rfl
@[simp] theorem an113 : An.fn 113 = { own := [], keep := [(3, [2, 6, 7, 12, 13], [96, 112, 352])] } := rfl
@[simp] theorem an114 : An.fn 114 = { own := [], keep := [] } := rfl
@[simp] theorem an115 : An.fn 115 = { own := [], keep := [] } := rfl
@[simp] theorem an116 : An.fn 116 = { own := [], keep := [] } := rfl
@[simp] theorem an117 : An.fn 117 = { own := [], keep := [] } := rfl
@[simp] theorem an118 : An.fn 118 = { own := [5], keep := [(3, [3, 6, 7], [80, 208])] } := rfl
@[simp] theorem an119 : An.fn 119 = { own := [], keep := [] } := rfl
@[simp] theorem an122 : An.fn 122 = { own := [], keep := [] } := rfl
@[simp] theorem an123 : An.fn 123 = { own := [], keep := [] } := rfl
@[simp] theorem an124 : An.fn 124 = { own := [], keep := [(1, [0, 1, 2, 6], [100000, 100001, 100002]), (4, [0, 1, 2, 6, 7], [100000, 100001, 100002])] } := rfl
@[simp] theorem an125 : An.fn 125 = { own := [], keep := [(4, [0, 6, 7, 8, 9], []), (8, [0, 6, 7, 10], [])] } := rfl
@[simp] theorem an126 : An.fn 126 = { own := [], keep := [(5, [0, 1, 6, 7, 8, 9], [112])] } := rfl
@[simp] theorem an127 : An.fn 127 = { own := [], keep := [] } := rfl
@[simp] theorem an128 : An.fn 128 = { own := [], keep := [(2, [0, 6, 7], [])] } := rfl
@[simp] theorem an129 : An.fn 129 = { own := [], keep := [(3, [0, 1, 2, 7, 8], []), (5, [0, 1, 2, 7, 8], []), (14, [0, 1, 2, 7, 8, 9], []), (20, [0, 1, 2, 7, 8, 10], [])] } := rfl
@[simp] theorem an130 : An.fn 130 = { own := [], keep := [] } := rfl
@[simp] theorem an131 : An.fn 131 = { own := [], keep := [(3, [0, 1, 9, 10], []), (5, [0, 1, 9, 10], [])] } := rfl
@[simp] theorem an132 : An.fn 132 = { own := [], keep := [(3, [0, 1, 10, 11], []), (5, [0, 1, 10, 11], []), (13, [0, 1, 10, 11], []), (15, [0, 1, 10, 11], [])] } := rfl
@[simp] theorem an133 : An.fn 133 = { own := [], keep := [] } := rfl
@[simp] theorem an134 : An.fn 134 = { own := [], keep := [] } := rfl
@[simp] theorem an135 : An.fn 135 = { own := [], keep := [(4, [2, 3, 29, 30, 31], [32, 48]), (10, [2, 3, 42, 43], [32, 48]), (13, [2, 3, 7, 42, 43, 47, 48], [32, 48])] } := rfl
@[simp] theorem an136 : An.fn 136 = { own := [], keep := [(5, [0, 1, 5, 6], [100000, 100001, 100002])] } := rfl
@[simp] theorem an137 : An.fn 137 = { own := [], keep := [] } := rfl
@[simp] theorem an138 : An.fn 138 = { own := [], keep := [(2, [0, 1, 7, 8], [])] } := rfl
@[simp] theorem an139 : An.fn 139 = { own := [], keep := [(1, [0, 2, 3, 8], [])] } := rfl
@[simp] theorem an140 : An.fn 140 = { own := [], keep := [] } := rfl
@[simp] theorem an141 : An.fn 141 = { own := [], keep := [] } := rfl
@[simp] theorem an142 : An.fn 142 = { own := [], keep := [] } := rfl
@[simp] theorem an143 : An.fn 143 = { own := [], keep := [] } := rfl
@[simp] theorem an144 : An.fn 144 = { own := [], keep := [] } := rfl
@[simp] theorem an145 : An.fn 145 = { own := [], keep := [] } := rfl
@[simp] theorem an146 : An.fn 146 = { own := [], keep := [] } := rfl
@[simp] theorem an147 : An.fn 147 = { own := [], keep := [] } := rfl
@[simp] theorem an148 : An.fn 148 = { own := [], keep := [(1, [0, 1], [])] } := rfl
noncomputable def cxAt (k m : Nat) : Cx := { P := Try.prog, call := evalCall Try.prog An m, lend := An.lend, rounds := m, ann := An.fn k }
@[simp] theorem cxAt_P (k m : Nat) : (cxAt k m).P = Try.prog := rfl
@[simp] theorem cxAt_call (k m : Nat) : (cxAt k m).call = evalCall Try.prog An m := rfl
@[simp] theorem cxAt_lend (k m : Nat) : (cxAt k m).lend = An.lend := rfl
@[simp] theorem cxAt_rounds (k m : Nat) : (cxAt k m).rounds = m := rfl
@[simp] theorem cxAt_ann (k m : Nat) : (cxAt k m).ann = An.fn k := rfl
theorem evalCall_at (k m : Nat) (args : List AV) (lent : List Ob) : evalCall Try.prog An (m + 1) k args lent = bnd (fbody Try.prog k) fun fb => bnd (evalCode (cxAt k m) fb.body { env := argEnv 0 args, obs := lentObs 0 lent, g := 1 }) fun r => callRes Try.prog lent r fb.results := rfl
end Go.Proofs.YtfpeijfomacgeaaE
