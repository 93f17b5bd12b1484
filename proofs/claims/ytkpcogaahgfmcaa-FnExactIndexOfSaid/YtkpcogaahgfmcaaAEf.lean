/- Facts of this program's types and functions, as the evaluator asks for them; written by a program of this session. -/
import Derived.Test.YtkpcogaahgfmcaaAEd
import Derived.Test.YtkpcogaahgfmcaaProg
import Derived.KernelRfl
namespace Go.Proofs.YtkpcogaahgfmcaaE
open Go Go.Proofs
@[simp] theorem tk2 : tk Try.prog 2 = TK.int IntKind.i64 := by kernel_rfl
@[simp] theorem sz2 : sz Try.prog 2 = 1 := by kernel_rfl
@[simp] theorem byts2 : byts Try.prog 2 = 8 := by kernel_rfl
@[simp] theorem zer2 : zer Try.prog 2 = some ((AV.d (D.int IntKind.i64 (0)))) := by kernel_rfl
@[simp] theorem tk3 : tk Try.prog 3 = TK.int IntKind.i64 := by kernel_rfl
@[simp] theorem sz3 : sz Try.prog 3 = 1 := by kernel_rfl
@[simp] theorem byts3 : byts Try.prog 3 = 8 := by kernel_rfl
@[simp] theorem zer3 : zer Try.prog 3 = some ((AV.d (D.int IntKind.i64 (0)))) := by kernel_rfl
@[simp] theorem tk4 : tk Try.prog 4 = TK.bool := by kernel_rfl
@[simp] theorem sz4 : sz Try.prog 4 = 1 := by kernel_rfl
@[simp] theorem byts4 : byts Try.prog 4 = 1 := by kernel_rfl
@[simp] theorem zer4 : zer Try.prog 4 = some ((AV.d (D.bool false))) := by kernel_rfl
@[simp] theorem tk5 : tk Try.prog 5 = TK.int IntKind.u8 := by kernel_rfl
@[simp] theorem sz5 : sz Try.prog 5 = 1 := by kernel_rfl
@[simp] theorem byts5 : byts Try.prog 5 = 1 := by kernel_rfl
@[simp] theorem zer5 : zer Try.prog 5 = some ((AV.d (D.int IntKind.u8 (0)))) := by kernel_rfl
@[simp] theorem tk9 : tk Try.prog 9 = TK.string := by kernel_rfl
@[simp] theorem sz9 : sz Try.prog 9 = 1 := by kernel_rfl
@[simp] theorem byts9 : byts Try.prog 9 = 16 := by kernel_rfl
@[simp] theorem zer9 : zer Try.prog 9 = some ((AV.d (D.str ByteArray.empty))) := by kernel_rfl
@[simp] theorem tk22 : tk Try.prog 22 = TK.slice 25 := by kernel_rfl
@[simp] theorem sz22 : sz Try.prog 22 = 1 := by kernel_rfl
@[simp] theorem byts22 : byts Try.prog 22 = 24 := by kernel_rfl
@[simp] theorem zer22 : zer Try.prog 22 = some ((AV.d D.nil)) := by kernel_rfl
@[simp] theorem tk24 : tk Try.prog 24 = TK.struct [(0, 22)] := by kernel_rfl
@[simp] theorem sz24 : sz Try.prog 24 = 1 := by kernel_rfl
@[simp] theorem byts24 : byts Try.prog 24 = 24 := by kernel_rfl
@[simp] theorem zer24 : zer Try.prog 24 = some ((AV.agg [AV.d D.nil])) := by kernel_rfl
@[simp] theorem tk25 : tk Try.prog 25 = TK.slice 2 := by kernel_rfl
@[simp] theorem sz25 : sz Try.prog 25 = 1 := by kernel_rfl
@[simp] theorem byts25 : byts Try.prog 25 = 24 := by kernel_rfl
@[simp] theorem zer25 : zer Try.prog 25 = some ((AV.d D.nil)) := by kernel_rfl
@[simp] theorem tk27 : tk Try.prog 27 = TK.struct [(0, 2), (1, 25)] := by kernel_rfl
@[simp] theorem sz27 : sz Try.prog 27 = 2 := by kernel_rfl
@[simp] theorem byts27 : byts Try.prog 27 = 32 := by kernel_rfl
@[simp] theorem zer27 : zer Try.prog 27 = some ((AV.agg [AV.d (D.int IntKind.i64 (0)), AV.d D.nil])) := by kernel_rfl
@[simp] theorem tk30 : tk Try.prog 30 = TK.struct [(0, 2), (1, 25)] := by kernel_rfl
@[simp] theorem sz30 : sz Try.prog 30 = 2 := by kernel_rfl
@[simp] theorem byts30 : byts Try.prog 30 = 32 := by kernel_rfl
@[simp] theorem zer30 : zer Try.prog 30 = some ((AV.agg [AV.d (D.int IntKind.i64 (0)), AV.d D.nil])) := by kernel_rfl
@[simp] theorem tk33 : tk Try.prog 33 = TK.struct [(0, 22)] := by kernel_rfl
@[simp] theorem sz33 : sz Try.prog 33 = 1 := by kernel_rfl
@[simp] theorem byts33 : byts Try.prog 33 = 24 := by kernel_rfl
@[simp] theorem zer33 : zer Try.prog 33 = some ((AV.agg [AV.d D.nil])) := by kernel_rfl
@[simp] theorem tk42 : tk Try.prog 42 = TK.struct [(0, 2), (1, 25)] := by kernel_rfl
@[simp] theorem sz42 : sz Try.prog 42 = 2 := by kernel_rfl
@[simp] theorem byts42 : byts Try.prog 42 = 32 := by kernel_rfl
@[simp] theorem zer42 : zer Try.prog 42 = some ((AV.agg [AV.d (D.int IntKind.i64 (0)), AV.d D.nil])) := by kernel_rfl
@[simp] theorem tk47 : tk Try.prog 47 = TK.struct [(0, 2), (1, 25)] := by kernel_rfl
@[simp] theorem sz47 : sz Try.prog 47 = 2 := by kernel_rfl
@[simp] theorem byts47 : byts Try.prog 47 = 32 := by kernel_rfl
@[simp] theorem zer47 : zer Try.prog 47 = some ((AV.agg [AV.d (D.int IntKind.i64 (0)), AV.d D.nil])) := by kernel_rfl
@[simp] theorem tk97 : tk Try.prog 97 = TK.func := by kernel_rfl
@[simp] theorem sz97 : sz Try.prog 97 = 1 := by kernel_rfl
@[simp] theorem byts97 : byts Try.prog 97 = 8 := by kernel_rfl
@[simp] theorem tk115 : tk Try.prog 115 = TK.func := by kernel_rfl
@[simp] theorem sz115 : sz Try.prog 115 = 1 := by kernel_rfl
@[simp] theorem byts115 : byts Try.prog 115 = 8 := by kernel_rfl
@[simp] theorem tk116 : tk Try.prog 116 = TK.slice 47 := by kernel_rfl
@[simp] theorem sz116 : sz Try.prog 116 = 1 := by kernel_rfl
@[simp] theorem byts116 : byts Try.prog 116 = 24 := by kernel_rfl
@[simp] theorem zer116 : zer Try.prog 116 = some ((AV.d D.nil)) := by kernel_rfl
@[simp] theorem tk118 : tk Try.prog 118 = TK.func := by kernel_rfl
@[simp] theorem sz118 : sz Try.prog 118 = 1 := by kernel_rfl
@[simp] theorem byts118 : byts Try.prog 118 = 8 := by kernel_rfl
@[simp] theorem tk141 : tk Try.prog 141 = TK.slice 30 := by kernel_rfl
@[simp] theorem sz141 : sz Try.prog 141 = 1 := by kernel_rfl
@[simp] theorem byts141 : byts Try.prog 141 = 24 := by kernel_rfl
@[simp] theorem zer141 : zer Try.prog 141 = some ((AV.d D.nil)) := by kernel_rfl
@[simp] theorem tk143 : tk Try.prog 143 = TK.int IntKind.u64 := by kernel_rfl
@[simp] theorem sz143 : sz Try.prog 143 = 1 := by kernel_rfl
@[simp] theorem byts143 : byts Try.prog 143 = 8 := by kernel_rfl
@[simp] theorem zer143 : zer Try.prog 143 = some ((AV.d (D.int IntKind.u64 (0)))) := by kernel_rfl
@[simp] theorem tk146 : tk Try.prog 146 = TK.int IntKind.u64 := by kernel_rfl
@[simp] theorem sz146 : sz Try.prog 146 = 1 := by kernel_rfl
@[simp] theorem byts146 : byts Try.prog 146 = 8 := by kernel_rfl
@[simp] theorem zer146 : zer Try.prog 146 = some ((AV.d (D.int IntKind.u64 (0)))) := by kernel_rfl
@[simp] theorem tk160 : tk Try.prog 160 = TK.int IntKind.u32 := by kernel_rfl
@[simp] theorem sz160 : sz Try.prog 160 = 1 := by kernel_rfl
@[simp] theorem byts160 : byts Try.prog 160 = 4 := by kernel_rfl
@[simp] theorem zer160 : zer Try.prog 160 = some ((AV.d (D.int IntKind.u32 (0)))) := by kernel_rfl
@[simp] theorem tk168 : tk Try.prog 168 = TK.int IntKind.i64 := by kernel_rfl
@[simp] theorem sz168 : sz Try.prog 168 = 1 := by kernel_rfl
@[simp] theorem byts168 : byts Try.prog 168 = 8 := by kernel_rfl
@[simp] theorem zer168 : zer Try.prog 168 = some ((AV.d (D.int IntKind.i64 (0)))) := by kernel_rfl
@[simp] theorem tk177 : tk Try.prog 177 = TK.int IntKind.u64 := by kernel_rfl
@[simp] theorem sz177 : sz Try.prog 177 = 1 := by kernel_rfl
@[simp] theorem byts177 : byts Try.prog 177 = 8 := by kernel_rfl
@[simp] theorem zer177 : zer Try.prog 177 = some ((AV.d (D.int IntKind.u64 (0)))) := by kernel_rfl
@[simp] theorem tk181 : tk Try.prog 181 = TK.other := by kernel_rfl
@[simp] theorem sz181 : sz Try.prog 181 = 1 := by kernel_rfl
@[simp] theorem byts181 : byts Try.prog 181 = 8 := by kernel_rfl
@[simp] theorem fb6 : fbody Try.prog 6 = some ⟨bodyOf Try.f6, 147, [.tmp 8]⟩ := by kernel_rfl
@[simp] theorem fb7 : fbody Try.prog 7 = some ⟨bodyOf Try.f7, 147, [.tmp 8]⟩ := by kernel_rfl
@[simp] theorem fb8 : fbody Try.prog 8 = some ⟨bodyOf Try.f8, 147, [.tmp 8]⟩ := by kernel_rfl
@[simp] theorem fb10 : fbody Try.prog 10 = some ⟨bodyOf Try.f10, 62, [.tmp 6]⟩ := by kernel_rfl
@[simp] theorem fb11 : fbody Try.prog 11 = some ⟨bodyOf Try.f11, 124, [.tmp 6]⟩ := by kernel_rfl
@[simp] theorem fb12 : fbody Try.prog 12 = some ⟨bodyOf Try.f12, 147, [.tmp 8]⟩ := by kernel_rfl
@[simp] theorem fb13 : fbody Try.prog 13 = some ⟨bodyOf Try.f13, 124, [.tmp 6]⟩ := by kernel_rfl
@[simp] theorem fb14 : fbody Try.prog 14 = some ⟨bodyOf Try.f14, 56, [.tmp 4]⟩ := by kernel_rfl
@[simp] theorem fb15 : fbody Try.prog 15 = some ⟨bodyOf Try.f15, 12, [.tmp 4]⟩ := by kernel_rfl
@[simp] theorem fb16 : fbody Try.prog 16 = some ⟨bodyOf Try.f16, 12, [.tmp 4]⟩ := by kernel_rfl
@[simp] theorem fb18 : fbody Try.prog 18 = some ⟨bodyOf Try.f18, 9, [.cell 2 33]⟩ := by kernel_rfl
@[simp] theorem fb19 : fbody Try.prog 19 = some ⟨bodyOf Try.f19, 12, [.cell 2 30]⟩ := by kernel_rfl
@[simp] theorem fb21 : fbody Try.prog 21 = some ⟨bodyOf Try.f21, 16, [.tmp 4]⟩ := by kernel_rfl
@[simp] theorem fb22 : fbody Try.prog 22 = some ⟨bodyOf Try.f22, 11, [.tmp 4]⟩ := by kernel_rfl
@[simp] theorem fb23 : fbody Try.prog 23 = some ⟨bodyOf Try.f23, 10, [.tmp 4]⟩ := by kernel_rfl
@[simp] theorem fb24 : fbody Try.prog 24 = some ⟨bodyOf Try.f24, 10, [.tmp 4]⟩ := by kernel_rfl
@[simp] theorem fb33 : fbody Try.prog 33 = some ⟨bodyOf Try.f33, 12, [.tmp 4]⟩ := by kernel_rfl
@[simp] theorem fb34 : fbody Try.prog 34 = some ⟨bodyOf Try.f34, 35, [.cell 8 47, .tmp 9]⟩ := by kernel_rfl
@[simp] theorem fb35 : fbody Try.prog 35 = some ⟨bodyOf Try.f35, 12, [.cell 2 47]⟩ := by kernel_rfl
@[simp] theorem fb36 : fbody Try.prog 36 = some ⟨bodyOf Try.f36, 31, [.cell 8 47, .tmp 9]⟩ := by kernel_rfl
@[simp] theorem fb37 : fbody Try.prog 37 = some ⟨bodyOf Try.f37, 16, [.tmp 4]⟩ := by kernel_rfl
@[simp] theorem fb38 : fbody Try.prog 38 = some ⟨bodyOf Try.f38, 10, [.tmp 4]⟩ := by kernel_rfl
@[simp] theorem fb39 : fbody Try.prog 39 = some ⟨bodyOf Try.f39, 12, [.tmp 4]⟩ := by kernel_rfl
@[simp] theorem fb40 : fbody Try.prog 40 = some ⟨bodyOf Try.f40, 27, [.cell 8 47, .tmp 9]⟩ := by kernel_rfl
@[simp] theorem fb41 : fbody Try.prog 41 = some ⟨bodyOf Try.f41, 34, [.cell 8 47, .tmp 9]⟩ := by kernel_rfl
@[simp] theorem fb42 : fbody Try.prog 42 = some ⟨bodyOf Try.f42, 27, [.cell 8 47, .tmp 9]⟩ := by kernel_rfl
@[simp] theorem fb43 : fbody Try.prog 43 = some ⟨bodyOf Try.f43, 33, [.cell 8 47, .tmp 9]⟩ := by kernel_rfl
@[simp] theorem fb54 : fbody Try.prog 54 = some ⟨bodyOf Try.f54, 42, [.tmp 6, .tmp 7]⟩ := by kernel_rfl
@[simp] theorem fb55 : fbody Try.prog 55 = some ⟨bodyOf Try.f55, 37, [.tmp 6, .tmp 7]⟩ := by kernel_rfl
@[simp] theorem fb56 : fbody Try.prog 56 = some ⟨bodyOf Try.f56, 20, [.tmp 6, .tmp 7]⟩ := by kernel_rfl
@[simp] theorem fb57 : fbody Try.prog 57 = some ⟨bodyOf Try.f57, 20, [.tmp 6, .tmp 7]⟩ := by kernel_rfl
@[simp] theorem fb58 : fbody Try.prog 58 = some ⟨bodyOf Try.f58, 27, [.tmp 4]⟩ := by kernel_rfl
@[simp] theorem fb59 : fbody Try.prog 59 = some ⟨bodyOf Try.f59, 19, [.tmp 4]⟩ := by kernel_rfl
@[simp] theorem fb60 : fbody Try.prog 60 = some ⟨bodyOf Try.f60, 21, [.tmp 4]⟩ := by kernel_rfl
@[simp] theorem fb61 : fbody Try.prog 61 = some ⟨bodyOf Try.f61, 51, [.cell 8 47, .tmp 9]⟩ := by kernel_rfl
@[simp] theorem fb62 : fbody Try.prog 62 = some ⟨bodyOf Try.f62, 51, [.cell 8 47, .tmp 9]⟩ := by kernel_rfl
@[simp] theorem fb63 : fbody Try.prog 63 = some ⟨bodyOf Try.f63, 20, [.tmp 6, .tmp 7]⟩ := by kernel_rfl
@[simp] theorem fb64 : fbody Try.prog 64 = some ⟨bodyOf Try.f64, 20, [.tmp 6, .tmp 7]⟩ := by kernel_rfl
@[simp] theorem fb65 : fbody Try.prog 65 = some ⟨bodyOf Try.f65, 26, [.tmp 4]⟩ := by kernel_rfl
@[simp] theorem fb66 : fbody Try.prog 66 = some ⟨bodyOf Try.f66, 19, [.tmp 4]⟩ := by kernel_rfl
@[simp] theorem fb67 : fbody Try.prog 67 = some ⟨bodyOf Try.f67, 21, [.tmp 4]⟩ := by kernel_rfl
@[simp] theorem fb68 : fbody Try.prog 68 = some ⟨bodyOf Try.f68, 18, [.tmp 4, .tmp 5]⟩ := by kernel_rfl
@[simp] theorem fb69 : fbody Try.prog 69 = some ⟨bodyOf Try.f69, 22, [.tmp 2]⟩ := by kernel_rfl
@[simp] theorem fb70 : fbody Try.prog 70 = some ⟨bodyOf Try.f70, 18, [.tmp 4, .tmp 5]⟩ := by kernel_rfl
@[simp] theorem fb71 : fbody Try.prog 71 = some ⟨bodyOf Try.f71, 27, [.tmp 4]⟩ := by kernel_rfl
@[simp] theorem fb72 : fbody Try.prog 72 = some ⟨bodyOf Try.f72, 12, [.tmp 4]⟩ := by kernel_rfl
@[simp] theorem fb73 : fbody Try.prog 73 = some ⟨bodyOf Try.f73, 31, [.tmp 6]⟩ := by kernel_rfl
@[simp] theorem fb74 : fbody Try.prog 74 = some ⟨bodyOf Try.f74, 30, [.cell 4 30]⟩ := by kernel_rfl
@[simp] theorem fb75 : fbody Try.prog 75 = some ⟨bodyOf Try.f75, 23, [.tmp 2]⟩ := by kernel_rfl
@[simp] theorem fb76 : fbody Try.prog 76 = some ⟨bodyOf Try.f76, 30, [.tmp 6]⟩ := by kernel_rfl
@[simp] theorem fb77 : fbody Try.prog 77 = some ⟨bodyOf Try.f77, 11, [.cell 6 30]⟩ := by kernel_rfl
@[simp] theorem fb78 : fbody Try.prog 78 = some ⟨bodyOf Try.f78, 31, [.tmp 6]⟩ := by kernel_rfl
@[simp] theorem fb80 : fbody Try.prog 80 = some ⟨bodyOf Try.f80, 31, [.cell 4 47]⟩ := by kernel_rfl
@[simp] theorem fb81 : fbody Try.prog 81 = some ⟨bodyOf Try.f81, 27, [.tmp 6]⟩ := by kernel_rfl
@[simp] theorem fb82 : fbody Try.prog 82 = some ⟨bodyOf Try.f82, 8, [.cell 4 47]⟩ := by kernel_rfl
@[simp] theorem fb83 : fbody Try.prog 83 = some ⟨bodyOf Try.f83, 26, [.tmp 10]⟩ := by kernel_rfl
@[simp] theorem fb84 : fbody Try.prog 84 = some ⟨bodyOf Try.f84, 31, [.cell 4 47]⟩ := by kernel_rfl
@[simp] theorem fb85 : fbody Try.prog 85 = some ⟨bodyOf Try.f85, 8, [.cell 4 47]⟩ := by kernel_rfl
@[simp] theorem fb88 : fbody Try.prog 88 = some ⟨bodyOf Try.f88, 38, [.cell 8 47]⟩ := by kernel_rfl
@[simp] theorem fb98 : fbody Try.prog 98 = some ⟨bodyOf Try.f98, 22, [.tmp 6]⟩ := by kernel_rfl
@[simp] theorem fb103 : fbody Try.prog 103 = some ⟨bodyOf Try.f103, 38, [.tmp 6]⟩ := by kernel_rfl
@[simp] theorem fb104 : fbody Try.prog 104 = some ⟨bodyOf Try.f104, 6, [.tmp 2]⟩ := by kernel_rfl
@[simp] theorem fb105 : fbody Try.prog 105 = some ⟨bodyOf Try.f105, 36, [.tmp 6]⟩ := by kernel_rfl
@[simp] theorem fb106 : fbody Try.prog 106 = some ⟨bodyOf Try.f106, 35, [.tmp 6]⟩ := by kernel_rfl
@[simp] theorem fb107 : fbody Try.prog 107 = some ⟨bodyOf Try.f107, 6, [.tmp 2]⟩ := by kernel_rfl
@[simp] theorem fb108 : fbody Try.prog 108 = some ⟨bodyOf Try.f108, 28, [.tmp 10]⟩ := by kernel_rfl
@[simp] theorem fb109 : fbody Try.prog 109 = some ⟨bodyOf Try.f109, 68, [.tmp 6]⟩ := by kernel_rfl
@[simp] theorem fb110 : fbody Try.prog 110 = some ⟨bodyOf Try.f110, 52, [.tmp 6]⟩ := by kernel_rfl
@[simp] theorem fb111 : fbody Try.prog 111 = some ⟨bodyOf Try.f111, 28, [.tmp 6]⟩ := by kernel_rfl
@[simp] theorem fb112 : fbody Try.prog 112 = some ⟨bodyOf Try.f112, 37, [.cell 8 47]⟩ := by kernel_rfl
@[simp] theorem fb113 : fbody Try.prog 113 = some ⟨bodyOf Try.f113, 20, [.cell 8 47]⟩ := by kernel_rfl
@[simp] theorem fb114 : fbody Try.prog 114 = some ⟨bodyOf Try.f114, 46, [.tmp 6]⟩ := by kernel_rfl
@[simp] theorem fb115 : fbody Try.prog 115 = some ⟨bodyOf Try.f115, 15, [.tmp 6]⟩ := by kernel_rfl
@[simp] theorem fb116 : fbody Try.prog 116 = some ⟨bodyOf Try.f116, 16, [.tmp 4]⟩ := by kernel_rfl
@[simp] theorem fb117 : fbody Try.prog 117 = some ⟨bodyOf Try.f117, 16, [.tmp 4]⟩ := by kernel_rfl
@[simp] theorem fb118 : fbody Try.prog 118 = some ⟨bodyOf Try.f118, 137, [.tmp 2]⟩ := by kernel_rfl
@[simp] theorem fb119 : fbody Try.prog 119 = some ⟨bodyOf Try.f119, 90, [.tmp 4]⟩ := by kernel_rfl
@[simp] theorem fb120 : fbody Try.prog 120 = some ⟨bodyOf Try.f120, 15, [.tmp 6]⟩ := by kernel_rfl
@[simp] theorem fb121 : fbody Try.prog 121 = some ⟨bodyOf Try.f121, 9, [.tmp 4]⟩ := by kernel_rfl
@[simp] theorem fb122 : fbody Try.prog 122 = some ⟨bodyOf Try.f122, 26, [.cell 6 30]⟩ := by kernel_rfl
@[simp] theorem fb123 : fbody Try.prog 123 = some ⟨bodyOf Try.f123, 12, [.tmp 4]⟩ := by kernel_rfl
@[simp] theorem fb124 : fbody Try.prog 124 = some ⟨bodyOf Try.f124, 39, [.tmp 6]⟩ := by kernel_rfl
@[simp] theorem fb125 : fbody Try.prog 125 = some ⟨bodyOf Try.f125, 23, [.tmp 4]⟩ := by kernel_rfl
@[simp] theorem fb126 : fbody Try.prog 126 = some ⟨bodyOf Try.f126, 9, [.tmp 2]⟩ := by kernel_rfl
@[simp] theorem fb127 : fbody Try.prog 127 = some ⟨bodyOf Try.f127, 10, [.tmp 4]⟩ := by kernel_rfl
@[simp] theorem fb128 : fbody Try.prog 128 = some ⟨bodyOf Try.f128, 21, [.tmp 4]⟩ := by kernel_rfl
@[simp] theorem fb129 : fbody Try.prog 129 = some ⟨bodyOf Try.f129, 12, [.cell 4 47]⟩ := by kernel_rfl
@[simp] theorem fb130 : fbody Try.prog 130 = some ⟨bodyOf Try.f130, 7, [.tmp 3]⟩ := by kernel_rfl
@[simp] theorem fb131 : fbody Try.prog 131 = some ⟨bodyOf Try.f131, 7, [.tmp 3]⟩ := by kernel_rfl
@[simp] theorem fb140 : fbody Try.prog 140 = some ⟨bodyOf Try.f140, 11, [.cell 4 47]⟩ := by kernel_rfl
@[simp] theorem fb141 : fbody Try.prog 141 = some ⟨bodyOf Try.f141, 32, [.tmp 6]⟩ := by kernel_rfl
@[simp] theorem fb145 : fbody Try.prog 145 = some ⟨bodyOf Try.f145, 15, [.cell 6 47]⟩ := by kernel_rfl
@[simp] theorem fb146 : fbody Try.prog 146 = some ⟨bodyOf Try.f146, 12, [.tmp 4]⟩ := by kernel_rfl
@[simp] theorem fb147 : fbody Try.prog 147 = some ⟨bodyOf Try.f147, 23, [.cell 4 30]⟩ := by kernel_rfl
@[simp] theorem fb148 : fbody Try.prog 148 = some ⟨bodyOf Try.f148, 110, [.tmp 2]⟩ := by kernel_rfl
@[simp] theorem fb149 : fbody Try.prog 149 = some ⟨bodyOf Try.f149, 9, [.tmp 2]⟩ := by kernel_rfl
@[simp] theorem fb150 : fbody Try.prog 150 = some ⟨bodyOf Try.f150, 12, [.cell 4 30]⟩ := by kernel_rfl
@[simp] theorem fb151 : fbody Try.prog 151 = some ⟨bodyOf Try.f151, 18, [.tmp 6]⟩ := by kernel_rfl
@[simp] theorem fb152 : fbody Try.prog 152 = some ⟨bodyOf Try.f152, 24, [.tmp 4]⟩ := by kernel_rfl
@[simp] theorem fb153 : fbody Try.prog 153 = some ⟨bodyOf Try.f153, 16, [.tmp 4]⟩ := by kernel_rfl
@[simp] theorem fb154 : fbody Try.prog 154 = some ⟨bodyOf Try.f154, 85, [.tmp 8]⟩ := by kernel_rfl
@[simp] theorem fb155 : fbody Try.prog 155 = some ⟨bodyOf Try.f155, 32, [.tmp 6]⟩ := by kernel_rfl
@[simp] theorem fb156 : fbody Try.prog 156 = some ⟨bodyOf Try.f156, 37, [.cell 6 47]⟩ := by kernel_rfl
@[simp] theorem fb157 : fbody Try.prog 157 = some ⟨bodyOf Try.f157, 7, [.tmp 3]⟩ := by kernel_rfl
@[simp] theorem fb158 : fbody Try.prog 158 = some ⟨bodyOf Try.f158, 10, [.tmp 4]⟩ := by kernel_rfl
@[simp] theorem fb159 : fbody Try.prog 159 = some ⟨bodyOf Try.f159, 10, [.tmp 3]⟩ := by kernel_rfl
@[simp] theorem fb160 : fbody Try.prog 160 = some ⟨bodyOf Try.f160, 9, [.tmp 4]⟩ := by kernel_rfl
@[simp] theorem fb161 : fbody Try.prog 161 = some ⟨bodyOf Try.f161, 5, [.tmp 2]⟩ := by kernel_rfl
@[simp] theorem fb162 : fbody Try.prog 162 = some ⟨bodyOf Try.f162, 29, [.tmp 4]⟩ := by kernel_rfl
@[simp] theorem fb163 : fbody Try.prog 163 = some ⟨bodyOf Try.f163, 23, [.tmp 4]⟩ := by kernel_rfl
@[simp] theorem fb164 : fbody Try.prog 164 = some ⟨bodyOf Try.f164, 14, [.tmp 4]⟩ := by kernel_rfl
@[simp] theorem fb165 : fbody Try.prog 165 = some ⟨bodyOf Try.f165, 10, [.tmp 4]⟩ := by kernel_rfl
@[simp] theorem fb166 : fbody Try.prog 166 = some ⟨bodyOf Try.f166, 17, [.tmp 4]⟩ := by kernel_rfl
@[simp] theorem fb167 : fbody Try.prog 167 = some ⟨bodyOf Try.f167, 77, [.tmp 4]⟩ := by kernel_rfl
@[simp] theorem fb168 : fbody Try.prog 168 = some ⟨bodyOf Try.f168, 14, [.tmp 4]⟩ := by kernel_rfl
@[simp] theorem fb169 : fbody Try.prog 169 = some ⟨bodyOf Try.f169, 23, [.tmp 4]⟩ := by kernel_rfl
@[simp] theorem fb171 : fbody Try.prog 171 = some ⟨bodyOf Try.f171, 18, [.tmp 4]⟩ := by kernel_rfl
@[simp] theorem fb173 : fbody Try.prog 173 = some ⟨bodyOf Try.f173, 11, [.tmp 5]⟩ := by kernel_rfl
@[simp] theorem fb174 : fbody Try.prog 174 = some ⟨bodyOf Try.f174, 79, [.tmp 8]⟩ := by kernel_rfl
@[simp] theorem fb175 : fbody Try.prog 175 = some ⟨bodyOf Try.f175, 9, [.tmp 4]⟩ := by kernel_rfl
@[simp] theorem fb176 : fbody Try.prog 176 = some ⟨bodyOf Try.f176, 48, [.tmp 4]⟩ := by kernel_rfl
@[simp] theorem fb177 : fbody Try.prog 177 = some ⟨bodyOf Try.f177, 26, [.tmp 4]⟩ := by kernel_rfl
@[simp] theorem fb178 : fbody Try.prog 178 = some ⟨bodyOf Try.f178, 6, [.tmp 2]⟩ := by kernel_rfl
@[simp] theorem fb179 : fbody Try.prog 179 = some ⟨bodyOf Try.f179, 42, [.tmp 4]⟩ := by kernel_rfl
@[simp] theorem fb180 : fbody Try.prog 180 = some ⟨bodyOf Try.f180, 16, [.tmp 2]⟩ := by kernel_rfl
@[simp] theorem fb181 : fbody Try.prog 181 = some ⟨bodyOf Try.f181, 8, [.tmp 3]⟩ := by kernel_rfl
@[simp] theorem fb182 : fbody Try.prog 182 = some ⟨bodyOf Try.f182, 19, [.tmp 4]⟩ := by kernel_rfl
@[simp] theorem fb183 : fbody Try.prog 183 = some ⟨bodyOf Try.f183, 24, [.tmp 4]⟩ := by kernel_rfl
@[simp] theorem fb184 : fbody Try.prog 184 = some ⟨bodyOf Try.f184, 51, [.tmp 4]⟩ := by kernel_rfl
@[simp] theorem fb185 : fbody Try.prog 185 = some ⟨bodyOf Try.f185, 20, [.tmp 2]⟩ := by kernel_rfl
@[simp] theorem fb186 : fbody Try.prog 186 = some ⟨bodyOf Try.f186, 30, [.tmp 4]⟩ := by kernel_rfl
@[simp] theorem fb187 : fbody Try.prog 187 = some ⟨bodyOf Try.f187, 26, [.tmp 4]⟩ := by kernel_rfl
@[simp] theorem fb188 : fbody Try.prog 188 = some ⟨bodyOf Try.f188, 43, [.tmp 4]⟩ := by kernel_rfl
@[simp] theorem fb189 : fbody Try.prog 189 = some ⟨bodyOf Try.f189, 12, [.tmp 4]⟩ := by kernel_rfl
@[simp] theorem fb190 : fbody Try.prog 190 = some ⟨bodyOf Try.f190, 19, [.tmp 4]⟩ := by kernel_rfl
@[simp] theorem fb191 : fbody Try.prog 191 = some ⟨bodyOf Try.f191, 30, [.tmp 4, .tmp 5]⟩ := by kernel_rfl
@[simp] theorem fb192 : fbody Try.prog 192 = some ⟨bodyOf Try.f192, 21, [.tmp 2]⟩ := by kernel_rfl
@[simp] theorem fb193 : fbody Try.prog 193 = some ⟨bodyOf Try.f193, 11, []⟩ := by kernel_rfl
@[simp] theorem fb194 : fbody Try.prog 194 = some ⟨bodyOf Try.f194, 17, [.tmp 4, .tmp 5]⟩ := by kernel_rfl
@[simp] theorem fb195 : fbody Try.prog 195 = some ⟨bodyOf Try.f195, 51, [.tmp 4, .tmp 5]⟩ := by kernel_rfl
@[simp] theorem fb196 : fbody Try.prog 196 = some ⟨bodyOf Try.f196, 134, []⟩ := by kernel_rfl
@[simp] theorem fb197 : fbody Try.prog 197 = some ⟨bodyOf Try.f197, 8, [.tmp 2]⟩ := by kernel_rfl
@[simp] theorem fb198 : fbody Try.prog 198 = some ⟨bodyOf Try.f198, 49, []⟩ := by kernel_rfl
@[simp] theorem fb199 : fbody Try.prog 199 = some ⟨bodyOf Try.f199, 56, []⟩ := by kernel_rfl
@[simp] theorem fb200 : fbody Try.prog 200 = some ⟨bodyOf Try.f200, 65, []⟩ := by kernel_rfl
@[simp] theorem fb201 : fbody Try.prog 201 = some ⟨bodyOf Try.f201, 57, [.tmp 6, .tmp 7]⟩ := by kernel_rfl
@[simp] theorem fb202 : fbody Try.prog 202 = some ⟨bodyOf Try.f202, 32, []⟩ := by kernel_rfl
@[simp] theorem fb203 : fbody Try.prog 203 = some ⟨bodyOf Try.f203, 133, [.tmp 6]⟩ := by kernel_rfl
@[simp] theorem fb204 : fbody Try.prog 204 = some ⟨bodyOf Try.f204, 17, [.tmp 4]⟩ := by kernel_rfl
@[simp] theorem fb205 : fbody Try.prog 205 = some ⟨bodyOf Try.f205, 84, [.tmp 8]⟩ := by kernel_rfl
@[simp] theorem fb206 : fbody Try.prog 206 = some ⟨bodyOf Try.f206, 168, [.tmp 8, .tmp 9]⟩ := by kernel_rfl
@[simp] theorem fb207 : fbody Try.prog 207 = some ⟨bodyOf Try.f207, 19, [.tmp 2]⟩ := by kernel_rfl
@[simp] theorem fb208 : fbody Try.prog 208 = some ⟨bodyOf Try.f208, 25, [.tmp 2]⟩ := by kernel_rfl
@[simp] theorem fb209 : fbody Try.prog 209 = some ⟨bodyOf Try.f209, 76, []⟩ := by kernel_rfl
@[simp] theorem fb210 : fbody Try.prog 210 = some ⟨bodyOf Try.f210, 7, [.tmp 2]⟩ := by kernel_rfl
@[simp] theorem fb211 : fbody Try.prog 211 = some ⟨bodyOf Try.f211, 33, [.tmp 2]⟩ := by kernel_rfl
@[simp] theorem fb212 : fbody Try.prog 212 = some ⟨bodyOf Try.f212, 15, [.tmp 6]⟩ := by kernel_rfl
@[simp] theorem fb213 : fbody Try.prog 213 = some ⟨bodyOf Try.f213, 36, [.tmp 10]⟩ := by kernel_rfl
@[simp] theorem fb214 : fbody Try.prog 214 = some ⟨bodyOf Try.f214, 6, [.tmp 2]⟩ := by kernel_rfl
@[simp] theorem fb215 : fbody Try.prog 215 = some ⟨bodyOf Try.f215, 28, [.tmp 8, .tmp 9]⟩ := by kernel_rfl
def annL : List (Nat × FAnn) := [
  (6, { own := [], keep := [] }),
  (7, { own := [], keep := [] }),
  (8, { own := [], keep := [] }),
  (10, { own := [], keep := [] }),
  (11, { own := [], keep := [] }),
  (12, { own := [], keep := [] }),
  (13, { own := [], keep := [] }),
  (14, { own := [], keep := [] }),
  (15, { own := [], keep := [] }),
  (16, { own := [], keep := [] }),
  (18, { own := [], keep := [] }),
  (19, { own := [], keep := [] }),
  (21, { own := [], keep := [] }),
  (22, { own := [], keep := [] }),
  (23, { own := [], keep := [] }),
  (24, { own := [], keep := [] }),
  (33, { own := [], keep := [] }),
  (34, { own := [], keep := [] }),
  (35, { own := [], keep := [] }),
  (36, { own := [], keep := [] }),
  (37, { own := [], keep := [] }),
  (38, { own := [], keep := [] }),
  (39, { own := [], keep := [] }),
  (40, { own := [], keep := [] }),
  (41, { own := [], keep := [] }),
  (42, { own := [], keep := [] }),
  (43, { own := [], keep := [] }),
  (54, { own := [], keep := [(5, [3, 5, 9], [48, 80]), (8, [3, 5, 9, 10], [48, 80])] }),
  (55, { own := [], keep := [(5, [1, 3, 5, 19, 20], [48, 80]), (8, [1, 3, 5, 9, 19, 20, 24, 25], [48, 80])] }),
  (56, { own := [], keep := [] }),
  (57, { own := [], keep := [] }),
  (58, { own := [], keep := [(4, [0, 1, 5], [])] }),
  (59, { own := [], keep := [(2, [0, 1, 5], [100000, 100001, 100002])] }),
  (60, { own := [], keep := [(2, [0, 1, 5], [])] }),
  (61, { own := [], keep := [] }),
  (62, { own := [], keep := [] }),
  (63, { own := [], keep := [] }),
  (64, { own := [], keep := [] }),
  (65, { own := [], keep := [(4, [0, 1, 5], [])] }),
  (66, { own := [], keep := [(2, [0, 1, 5], [100000, 100001, 100002])] }),
  (67, { own := [], keep := [(2, [0, 1, 5], [])] }),
  (68, { own := [], keep := [] }),
  (69, { own := [], keep := [(3, [0, 3, 4], [112])] }),
  (70, { own := [], keep := [] }),
  (71, { own := [], keep := [(5, [0, 1, 5], [])] }),
  (72, { own := [], keep := [] }),
  (73, { own := [], keep := [] }),
  (74, { own := [8], keep := [(3, [1, 2, 4, 5, 6], [32, 64, 80, 128, 432])] }),
  (75, { own := [], keep := [(3, [0, 3, 4], [112, 320, 321, 322, 323])] }),
  (76, { own := [], keep := [] }),
  (77, { own := [], keep := [] }),
  (78, { own := [], keep := [(4, [2, 3, 4, 7], [48, 64])] }),
  (80, { own := [9], keep := [(3, [1, 2, 4, 5, 6], [32, 64, 80, 144, 448])] }),
  (81, { own := [], keep := [] }),
  (82, { own := [], keep := [] }),
  (83, { own := [], keep := [] }),
  (84, { own := [9], keep := [(3, [1, 2, 4, 5, 6], [32, 64, 80, 144, 448])] }),
  (85, { own := [], keep := [] }),
  (88, { own := [], keep := [(3, [1, 2, 3, 4, 8, 9, 16, 17], [64, 128, 144, 208, 209, 210, 211])] }),
  (98, { own := [], keep := [(2, [13, 14, 15], [192, 193, 194, 195])] }),
  (103, { own := [], keep := [] }),
  (104, { own := [], keep := [] }),
  (105, { own := [], keep := [(3, [2, 3, 4, 7, 8], [48, 64])] }),
  (106, { own := [], keep := [] }),
  (107, { own := [], keep := [] }),
  (108, { own := [], keep := [] }),
  (109, { own := [18], keep := [(3, [1, 3, 5, 7, 8], [48, 80, 176, 1056]), (7, [1, 3, 5, 7, 8, 9, 10], [48, 80, 176, 288, 704, 992, 1056])] }),
  (110, { own := [18], keep := [(3, [1, 3, 5, 7, 14, 15], [48, 80, 192, 784]), (7, [1, 3, 5, 7, 8, 9, 14, 15, 20, 21], [48, 80, 192, 288, 704, 784])] }),
  (111, { own := [], keep := [(2, [3, 4, 5, 7], [48, 64, 80])] }),
  (112, { own := [], keep := [(3, [2, 5, 8, 9, 10], [80, 128, 144, 224, 225, 226, 227])] }),
  (113, { own := [], keep := [] }),
  (114, { own := [16], keep := [(3, [7, 8, 9], [240, 241, 242, 243, 256, 704]), (7, [7, 8, 9, 10, 11], [240, 241, 242, 243, 256, 704])] }),
  (115, { own := [], keep := [] }),
  (116, { own := [], keep := [] }),
  (117, { own := [], keep := [] }),
  (118, { own := [], keep := [(5, [1, 3, 4], [16]), (10, [1, 3, 4, 5], [16]), (15, [1, 3, 6], [16]), (21, [1, 3, 6, 7, 8], [16]), (25, [1, 3, 6, 7, 8, 9], [16])] }),
  (119, { own := [], keep := [(4, [2, 3, 5], [32, 48]), (9, [2, 3, 6], [32, 48]), (12, [2, 3, 6, 7], [32, 48])] }),
  (120, { own := [], keep := [] }),
  (121, { own := [], keep := [] }),
  (122, { own := [], keep := [(3, [2, 6, 7, 12, 13], [96, 112, 352])] }),
  (123, { own := [], keep := [] }),
  (124, { own := [], keep := [(4, [4, 5, 7], [64, 80])] }),
  (125, { own := [], keep := [(2, [2, 7, 8, 9], [32])] }),
  (126, { own := [], keep := [] }),
  (127, { own := [], keep := [] }),
  (128, { own := [], keep := [(2, [0, 7, 8, 9], [])] }),
  (129, { own := [], keep := [] }),
  (130, { own := [], keep := [] }),
  (131, { own := [], keep := [] }),
  (140, { own := [], keep := [] }),
  (141, { own := [], keep := [(3, [2, 7, 8, 9], [176])] }),
  (145, { own := [], keep := [] }),
  (146, { own := [], keep := [] }),
  (147, { own := [8], keep := [(3, [2, 4, 5, 6], [32, 64, 80, 128, 320])] }),
  (148, { own := [], keep := [(5, [1, 3, 18, 19, 20], [16]), (11, [1, 3, 35, 36], [16]), (16, [1, 3, 6, 35, 36, 68, 69], [16]), (19, [1, 3, 6, 7, 35, 36, 68, 69, 72, 73], [16])] }),
  (149, { own := [], keep := [] }),
  (150, { own := [], keep := [] }),
  (151, { own := [], keep := [] }),
  (152, { own := [], keep := [(3, [2, 5, 8, 9, 10], [32])] }),
  (153, { own := [], keep := [(2, [1, 2, 5], [32])] }),
  (154, { own := [], keep := [(4, [3, 4, 5, 6, 9, 10, 11, 12], [64, 80, 96])] }),
  (155, { own := [], keep := [(3, [2, 7, 8, 9], [176])] }),
  (156, { own := [14], keep := [(4, [3, 4, 5, 6, 7, 8, 9], [48, 64, 80, 96, 128, 224, 544])] }),
  (157, { own := [], keep := [] }),
  (158, { own := [], keep := [] }),
  (159, { own := [], keep := [] }),
  (160, { own := [], keep := [] }),
  (161, { own := [], keep := [] }),
  (162, { own := [], keep := [(5, [1, 6], [])] }),
  (163, { own := [], keep := [] }),
  (164, { own := [], keep := [] }),
  (165, { own := [], keep := [] }),
  (166, { own := [], keep := [(1, [0, 1], [])] }),
  (167, { own := [], keep := [(4, [2, 3, 29, 30, 31], [32, 48]), (10, [2, 3, 42, 43], [32, 48]), (13, [2, 3, 7, 42, 43, 47, 48], [32, 48])] }),
  (168, { own := [], keep := [(3, [0, 5, 6, 7], [])] }),
  (169, { own := [8], keep := [(3, [1, 5, 9, 10, 11], [128, 320])] }),
  (171, { own := [], keep := [] }),
  (173, { own := [], keep := [] }),
  (174, { own := [34], keep := [(5, [3, 4, 6, 9, 10, 11, 30, 31], [64, 96])] }),
  (175, { own := [], keep := [] }),
  (176, { own := [], keep := [(8, [7, 8], [480])] }),
  (177, { own := [], keep := [(3, [2, 5, 8, 9, 10], [32])] }),
  (178, { own := [3], keep := [] }),
  (179, { own := [], keep := [(5, [0, 1, 5, 6], [100000, 100001, 100002])] }),
  (180, { own := [5], keep := [(3, [3, 6, 7], [80, 208])] }),
  (181, { own := [], keep := [] }),
  (182, { own := [], keep := [(2, [0, 1, 7, 8], [])] }),
  (183, { own := [], keep := [(4, [1, 2, 5], [32])] }),
  (184, { own := [], keep := [(3, [1, 2, 5], [32]), (7, [1, 2, 5, 6, 7], [32, 224, 225, 226, 227]), (10, [1, 2, 5, 6, 7, 8], [32, 224, 225, 226, 227])] }),
  (185, { own := [], keep := [(3, [0, 3, 4], [])] }),
  (186, { own := [], keep := [(2, [1, 2, 7, 8, 9], [32])] }),
  (187, { own := [], keep := [(4, [0, 1, 12, 13], [])] }),
  (188, { own := [10], keep := [(3, [1, 2, 5, 6], [32, 160, 608]), (6, [1, 2, 5, 6, 17, 18, 19], [32, 160, 608])] }),
  (189, { own := [], keep := [(1, [0, 1], [])] }),
  (190, { own := [], keep := [(2, [0, 1, 7, 8], [])] }),
  (191, { own := [], keep := [] }),
  (192, { own := [5], keep := [(3, [0, 3, 4], [80, 304])] }),
  (193, { own := [], keep := [] }),
  (194, { own := [], keep := [] }),
  (195, { own := [], keep := [] }),
  (196, { own := [], keep := [(2, [0, 1, 2, 3, 8, 9], [100000, 100001, 100002])] }),
  (197, { own := [], keep := [] }),
  (198, { own := [], keep := [(1, [0, 1, 2, 6], [100000, 100001, 100002]), (4, [0, 1, 2, 6, 7], [100000, 100001, 100002])] }),
  (199, { own := [], keep := [(4, [0, 6, 7, 8, 9], []), (8, [0, 6, 7, 10], [])] }),
  (200, { own := [], keep := [(5, [0, 1, 6, 7, 8, 9], [112])] }),
  (201, { own := [], keep := [] }),
  (202, { own := [], keep := [(2, [0, 6, 7], [])] }),
  (203, { own := [], keep := [(3, [0, 1, 2, 7, 8], []), (5, [0, 1, 2, 7, 8], []), (14, [0, 1, 2, 7, 8, 9], []), (20, [0, 1, 2, 7, 8, 10], [])] }),
  (204, { own := [], keep := [] }),
  (205, { own := [], keep := [(3, [0, 1, 9, 10], []), (5, [0, 1, 9, 10], [])] }),
  (206, { own := [], keep := [(3, [0, 1, 10, 11], []), (5, [0, 1, 10, 11], []), (13, [0, 1, 10, 11], []), (15, [0, 1, 10, 11], [])] }),
  (207, { own := [], keep := [] }),
  (208, { own := [], keep := [] }),
  (209, { own := [], keep := [(1, [0, 2, 3, 8], [])] }),
  (210, { own := [], keep := [] }),
  (211, { own := [], keep := [] }),
  (212, { own := [], keep := [] }),
  (213, { own := [], keep := [] }),
  (214, { own := [], keep := [] }),
  (215, { own := [], keep := [] })]
def An : Ann := { lend := [23, 24, 38, 59, 66, 179, 193, 196, 198], fn := fun k => (lookL annL k).getD {} }
@[simp] theorem an_lend : An.lend = [23, 24, 38, 59, 66, 179, 193, 196, 198] := rfl
@[simp] theorem an6 : An.fn 6 = { own := [], keep := [] } := rfl
@[simp] theorem an7 : An.fn 7 = { own := [], keep := [] } := rfl
@[simp] theorem an8 : An.fn 8 = { own := [], keep := [] } := rfl
@[simp] theorem an10 : An.fn 10 = { own := [], keep := [] } := rfl
@[simp] theorem an11 : An.fn 11 = { own := [], keep := [] } := rfl
@[simp] theorem an12 : An.fn 12 = { own := [], keep := [] } := rfl
@[simp] theorem an13 : An.fn 13 = { own := [], keep := [] } := rfl
@[simp] theorem an14 : An.fn 14 = { own := [], keep := [] } := rfl
@[simp] theorem an15 : An.fn 15 = { own := [], keep := [] } := rfl
@[simp] theorem an16 : An.fn 16 = { own := [], keep := [] } := rfl
@[simp] theorem an18 : An.fn 18 = { own := [], keep := [] } := rfl
@[simp] theorem an19 : An.fn 19 = { own := [], keep := [] } := rfl
@[simp] theorem an21 : An.fn 21 = { own := [], keep := [] } := rfl
@[simp] theorem an22 : An.fn 22 = { own := [], keep := [] } := rfl
@[simp] theorem an23 : An.fn 23 = { own := [], keep := [] } := rfl
@[simp] theorem an24 : An.fn 24 = { own := [], keep := [] } := rfl
@[simp] theorem an33 : An.fn 33 = { own := [], keep := [] } := rfl
@[simp] theorem an34 : An.fn 34 = { own := [], keep := [] } := rfl
@[simp] theorem an35 : An.fn 35 = { own := [], keep := [] } := rfl
@[simp] theorem an36 : An.fn 36 = { own := [], keep := [] } := rfl
@[simp] theorem an37 : An.fn 37 = { own := [], keep := [] } := rfl
@[simp] theorem an38 : An.fn 38 = { own := [], keep := [] } := rfl
@[simp] theorem an39 : An.fn 39 = { own := [], keep := [] } := rfl
@[simp] theorem an40 : An.fn 40 = { own := [], keep := [] } := rfl
@[simp] theorem an41 : An.fn 41 = { own := [], keep := [] } := rfl
@[simp] theorem an42 : An.fn 42 = { own := [], keep := [] } := rfl
@[simp] theorem an43 : An.fn 43 = { own := [], keep := [] } := rfl
@[simp] theorem an54 : An.fn 54 = { own := [], keep := [(5, [3, 5, 9], [48, 80]), (8, [3, 5, 9, 10], [48, 80])] } := rfl
@[simp] theorem an55 : An.fn 55 = { own := [], keep := [(5, [1, 3, 5, 19, 20], [48, 80]), (8, [1, 3, 5, 9, 19, 20, 24, 25], [48, 80])] } := rfl
@[simp] theorem an56 : An.fn 56 = { own := [], keep := [] } := rfl
@[simp] theorem an57 : An.fn 57 = { own := [], keep := [] } := rfl
@[simp] theorem an58 : An.fn 58 = { own := [], keep := [(4, [0, 1, 5], [])] } := rfl
@[simp] theorem an59 : An.fn 59 = { own := [], keep := [(2, [0, 1, 5], [100000, 100001, 100002])] } := rfl
@[simp] theorem an60 : An.fn 60 = { own := [], keep := [(2, [0, 1, 5], [])] } := rfl
@[simp] theorem an61 : An.fn 61 = { own := [], keep := [] } := rfl
@[simp] theorem an62 : An.fn 62 = { own := [], keep := [] } := rfl
@[simp] theorem an63 : An.fn 63 = { own := [], keep := [] } := rfl
@[simp] theorem an64 : An.fn 64 = { own := [], keep := [] } := rfl
@[simp] theorem an65 : An.fn 65 = { own := [], keep := [(4, [0, 1, 5], [])] } := rfl
@[simp] theorem an66 : An.fn 66 = { own := [], keep := [(2, [0, 1, 5], [100000, 100001, 100002])] } := rfl
@[simp] theorem an67 : An.fn 67 = { own := [], keep := [(2, [0, 1, 5], [])] } := rfl
@[simp] theorem an68 : An.fn 68 = { own := [], keep := [] } := rfl
@[simp] theorem an69 : An.fn 69 = { own := [], keep := [(3, [0, 3, 4], [112])] } := rfl
@[simp] theorem an70 : An.fn 70 = { own := [], keep := [] } := rfl
@[simp] theorem an71 : An.fn 71 = { own := [], keep := [(5, [0, 1, 5], [])] } := rfl
@[simp] theorem an72 : An.fn 72 = { own := [], keep := [] } := rfl
@[simp] theorem an73 : An.fn 73 = { own := [], keep := [] } := rfl
@[simp] theorem an74 : An.fn 74 = { own := [8], keep := [(3, [1, 2, 4, 5, 6], [32, 64, 80, 128, 432])] } := rfl
@[simp] theorem an75 : An.fn 75 = { own := [], keep := [(3, [0, 3, 4], [112, 320, 321, 322, 323])] } := rfl
@[simp] theorem an76 : An.fn 76 = { own := [], keep := [] } := rfl
@[simp] theorem an77 : An.fn 77 = { own := [], keep := [] } := rfl
@[simp] theorem an78 : An.fn 78 = { own := [], keep := [(4, [2, 3, 4, 7], [48, 64])] } := rfl
@[simp] theorem an80 : An.fn 80 = { own := [9], keep := [(3, [1, 2, 4, 5, 6], [32, 64, 80, 144, 448])] } := rfl
@[simp] theorem an81 : An.fn 81 = { own := [], keep := [] } := rfl
@[simp] theorem an82 : An.fn 82 = { own := [], keep := [] } := rfl
@[simp] theorem an83 : An.fn 83 = { own := [], keep := [] } := rfl
@[simp] theorem an84 : An.fn 84 = { own := [9], keep := [(3, [1, 2, 4, 5, 6], [32, 64, 80, 144, 448])] } := rfl
@[simp] theorem an85 : An.fn 85 = { own := [], keep := [] } := rfl
@[simp] theorem an88 : An.fn 88 = { own := [], keep := [(3, [1, 2, 3, 4, 8, 9, 16, 17], [64, 128, 144, 208, 209, 210, 211])] } := rfl
@[simp] theorem an98 : An.fn 98 = { own := [], keep := [(2, [13, 14, 15], [192, 193, 194, 195])] } := rfl
@[simp] theorem an103 : An.fn 103 = { own := [], keep := [] } := rfl
@[simp] theorem an104 : An.fn 104 = { own := [], keep := [] } := rfl
@[simp] theorem an105 : An.fn 105 = { own := [], keep := [(3, [2, 3, 4, 7, 8], [48, 64])] } := rfl
@[simp] theorem an106 : An.fn 106 = { own := [], keep := [] } := rfl
@[simp] theorem an107 : An.fn 107 = { own := [], keep := [] } := rfl
@[simp] theorem an108 : An.fn 108 = { own := [], keep := [] } := rfl
@[simp] theorem an109 : An.fn 109 = { own := [18], keep := [(3, [1, 3, 5, 7, 8], [48, 80, 176, 1056]), (7, [1, 3, 5, 7, 8, 9, 10], [48, 80, 176, 288, 704, 992, 1056])] } := rfl
@[simp] theorem an110 : An.fn 110 = { own := [18], keep := [(3, [1, 3, 5, 7, 14, 15], [48, 80, 192, 784]), (7, [1, 3, 5, 7, 8, 9, 14, 15, 20, 21], [48, 80, 192, 288, 704, 784])] } := rfl
@[simp] theorem an111 : An.fn 111 = { own := [], keep := [(2, [3, 4, 5, 7], [48, 64, 80])] } := rfl
@[simp] theorem an112 : An.fn 112 = { own := [], keep := [(3, [2, 5, 8, 9, 10], [80, 128, 144, 224, 225, 226, 227])] } := rfl
@[simp] theorem an113 : An.fn 113 = { own := [], keep := [] } := rfl
@[simp] theorem an114 : An.fn 114 = { own := [16], keep := [(3, [7, 8, 9], [240, 241, 242, 243, 256, 704]), (7, [7, 8, 9, 10, 11], [240, 241, 242, 243, 256, 704])] } := rfl
@[simp] theorem an115 : An.fn 115 = { own := [], keep := [] } := rfl
@[simp] theorem an116 : An.fn 116 = { own := [], keep := [] } := rfl
@[simp] theorem an117 : An.fn 117 = { own := [], keep := [] } := rfl
@[simp] theorem an118 : An.fn 118 = { own := [], keep := [(5, [1, 3, 4], [16]), (10, [1, 3, 4, 5], [16]), (15, [1, 3, 6], [16]), (21, [1, 3, 6, 7, 8], [16]), (25, [1, 3, 6, 7, 8, 9], [16])] } := rfl
@[simp] theorem an119 : An.fn 119 = { own := [], keep := [(4, [2, 3, 5], [32, 48]), (9, [2, 3, 6], [32, 48]), (12, [2, 3, 6, 7], [32, 48])] } := rfl
@[simp] theorem an120 : An.fn 120 = { own := [], keep := [] } := rfl
@[simp] theorem an121 : An.fn 121 = { own := [], keep := [] } := rfl
@[simp] theorem an122 : An.fn 122 = { own := [], keep := [(3, [2, 6, 7, 12, 13], [96, 112, 352])] } := rfl
@[simp] theorem an123 : An.fn 123 = { own := [], keep := [] } := rfl
@[simp] theorem an124 : An.fn 124 = { own := [], keep := [(4, [4, 5, 7], [64, 80])] } := rfl
@[simp] theorem an125 : An.fn 125 = { own := [], keep := [(2, [2, 7, 8, 9], [32])] } := rfl
@[simp] theorem an126 : An.fn 126 = { own := [], keep := [] } := rfl
@[simp] theorem an127 : An.fn 127 = { own := [], keep := [] } := rfl
@[simp] theorem an128 : An.fn 128 = { own := [], keep := [(2, [0, 7, 8, 9], [])] } := rfl
@[simp] theorem an129 : An.fn 129 = { own := [], keep := [] } := rfl
@[simp] theorem an130 : An.fn 130 = { own := [], keep := [] } := rfl
@[simp] theorem an131 : An.fn 131 = { own := [], keep := [] } := rfl
@[simp] theorem an140 : An.fn 140 = { own := [], keep := [] } := rfl
@[simp] theorem an141 : An.fn 141 = { own := [], keep := [(3, [2, 7, 8, 9], [176])] } := rfl
@[simp] theorem an145 : An.fn 145 = { own := [], keep := [] } := rfl
@[simp] theorem an146 : An.fn 146 = { own := [], keep := [] } := rfl
@[simp] theorem an147 : An.fn 147 = { own := [8], keep := [(3, [2, 4, 5, 6], [32, 64, 80, 128, 320])] } := rfl
@[simp] theorem an148 : An.fn 148 = { own := [], keep := [(5, [1, 3, 18, 19, 20], [16]), (11, [1, 3, 35, 36], [16]), (16, [1, 3, 6, 35, 36, 68, 69], [16]), (19, [1, 3, 6, 7, 35, 36, 68, 69, 72, 73], [16])] } := rfl
@[simp] theorem an149 : An.fn 149 = { own := [], keep := [] } := rfl
@[simp] theorem an150 : An.fn 150 = { own := [], keep := [] } := rfl
@[simp] theorem an151 : An.fn 151 = { own := [], keep := [] } := rfl
@[simp] theorem an152 : An.fn 152 = { own := [], keep := [(3, [2, 5, 8, 9, 10], [32])] } := rfl
@[simp] theorem an153 : An.fn 153 = { own := [], keep := [(2, [1, 2, 5], [32])] } := rfl
@[simp] theorem an154 : An.fn 154 = { own := [], keep := [(4, [3, 4, 5, 6, 9, 10, 11, 12], [64, 80, 96])] } := rfl
@[simp] theorem an155 : An.fn 155 = { own := [], keep := [(3, [2, 7, 8, 9], [176])] } := rfl
@[simp] theorem an156 : An.fn 156 = { own := [14], keep := [(4, [3, 4, 5, 6, 7, 8, 9], [48, 64, 80, 96, 128, 224, 544])] } := rfl
@[simp] theorem an157 : An.fn 157 = { own := [], keep := [] } := rfl
@[simp] theorem an158 : An.fn 158 = { own := [], keep := [] } := rfl
@[simp] theorem an159 : An.fn 159 = { own := [], keep := [] } := rfl
@[simp] theorem an160 : An.fn 160 = { own := [], keep := [] } := rfl
@[simp] theorem an161 : An.fn 161 = { own := [], keep := [] } := rfl
@[simp] theorem an162 : An.fn 162 = { own := [], keep := [(5, [1, 6], [])] } := rfl
@[simp] theorem an163 : An.fn 163 = { own := [], keep := [] } := rfl
@[simp] theorem an164 : An.fn 164 = { own := [], keep := [] } := rfl
@[simp] theorem an165 : An.fn 165 = { own := [], keep := [] } := rfl
@[simp] theorem an166 : An.fn 166 = { own := [], keep := [(1, [0, 1], [])] } := rfl
@[simp] theorem an167 : An.fn 167 = { own := [], keep := [(4, [2, 3, 29, 30, 31], [32, 48]), (10, [2, 3, 42, 43], [32, 48]), (13, [2, 3, 7, 42, 43, 47, 48], [32, 48])] } := rfl
@[simp] theorem an168 : An.fn 168 = { own := [], keep := [(3, [0, 5, 6, 7], [])] } := rfl
@[simp] theorem an169 : An.fn 169 = { own := [8], keep := [(3, [1, 5, 9, 10, 11], [128, 320])] } := rfl
@[simp] theorem an171 : An.fn 171 = { own := [], keep := [] } := rfl
@[simp] theorem an173 : An.fn 173 = { own := [], keep := [] } := rfl
@[simp] theorem an174 : An.fn 174 = { own := [34], keep := [(5, [3, 4, 6, 9, 10, 11, 30, 31], [64, 96])] } := rfl
@[simp] theorem an175 : An.fn 175 = { own := [], keep := [] } := rfl
@[simp] theorem an176 : An.fn 176 = { own := [], keep := [(8, [7, 8], [480])] } := rfl
@[simp] theorem an177 : An.fn 177 = { own := [], keep := [(3, [2, 5, 8, 9, 10], [32])] } := rfl
@[simp] theorem an178 : An.fn 178 = { own := [3], keep := [] } := rfl
@[simp] theorem an179 : An.fn 179 = { own := [], keep := [(5, [0, 1, 5, 6], [100000, 100001, 100002])] } := rfl
@[simp] theorem an180 : An.fn 180 = { own := [5], keep := [(3, [3, 6, 7], [80, 208])] } := rfl
@[simp] theorem an181 : An.fn 181 = { own := [], keep := [] } := rfl
@[simp] theorem an182 : An.fn 182 = { own := [], keep := [(2, [0, 1, 7, 8], [])] } := rfl
@[simp] theorem an183 : An.fn 183 = { own := [], keep := [(4, [1, 2, 5], [32])] } := rfl
@[simp] theorem an184 : An.fn 184 = { own := [], keep := [(3, [1, 2, 5], [32]), (7, [1, 2, 5, 6, 7], [32, 224, 225, 226, 227]), (10, [1, 2, 5, 6, 7, 8], [32, 224, 225, 226, 227])] } := rfl
@[simp] theorem an185 : An.fn 185 = { own := [], keep := [(3, [0, 3, 4], [])] } := rfl
@[simp] theorem an186 : An.fn 186 = { own := [], keep := [(2, [1, 2, 7, 8, 9], [32])] } := rfl
@[simp] theorem an187 : An.fn 187 = { own := [], keep := [(4, [0, 1, 12, 13], [])] } := rfl
@[simp] theorem an188 : An.fn 188 = { own := [10], keep := [(3, [1, 2, 5, 6], [32, 160, 608]), (6, [1, 2, 5, 6, 17, 18, 19], [32, 160, 608])] } := rfl
@[simp] theorem an189 : An.fn 189 = { own := [], keep := [(1, [0, 1], [])] } := rfl
@[simp] theorem an190 : An.fn 190 = { own := [], keep := [(2, [0, 1, 7, 8], [])] } := rfl
@[simp] theorem an191 : An.fn 191 = { own := [], keep := [] } := rfl
@[simp] theorem an192 : An.fn 192 = { own := [5], keep := [(3, [0, 3, 4], [80, 304])] } := rfl
@[simp] theorem an193 : An.fn 193 = { own := [], keep := [] } := rfl
@[simp] theorem an194 : An.fn 194 = { own := [], keep := [] } := rfl
@[simp] theorem an195 : An.fn 195 = { own := [], keep := [] } := rfl
@[simp] theorem an196 : An.fn 196 = { own := [], keep := [(2, [0, 1, 2, 3, 8, 9], [100000, 100001, 100002])] } := rfl
@[simp] theorem an197 : An.fn 197 = { own := [], keep := [] } := rfl
@[simp] theorem an198 : An.fn 198 = { own := [], keep := [(1, [0, 1, 2, 6], [100000, 100001, 100002]), (4, [0, 1, 2, 6, 7], [100000, 100001, 100002])] } := rfl
@[simp] theorem an199 : An.fn 199 = { own := [], keep := [(4, [0, 6, 7, 8, 9], []), (8, [0, 6, 7, 10], [])] } := rfl
@[simp] theorem an200 : An.fn 200 = { own := [], keep := [(5, [0, 1, 6, 7, 8, 9], [112])] } := rfl
@[simp] theorem an201 : An.fn 201 = { own := [], keep := [] } := rfl
@[simp] theorem an202 : An.fn 202 = { own := [], keep := [(2, [0, 6, 7], [])] } := rfl
@[simp] theorem an203 : An.fn 203 = { own := [], keep := [(3, [0, 1, 2, 7, 8], []), (5, [0, 1, 2, 7, 8], []), (14, [0, 1, 2, 7, 8, 9], []), (20, [0, 1, 2, 7, 8, 10], [])] } := rfl
@[simp] theorem an204 : An.fn 204 = { own := [], keep := [] } := rfl
@[simp] theorem an205 : An.fn 205 = { own := [], keep := [(3, [0, 1, 9, 10], []), (5, [0, 1, 9, 10], [])] } := rfl
@[simp] theorem an206 : An.fn 206 = { own := [], keep := [(3, [0, 1, 10, 11], []), (5, [0, 1, 10, 11], []), (13, [0, 1, 10, 11], []), (15, [0, 1, 10, 11], [])] } := rfl
@[simp] theorem an207 : An.fn 207 = { own := [], keep := [] } := rfl
@[simp] theorem an208 : An.fn 208 = { own := [], keep := [] } := rfl
@[simp] theorem an209 : An.fn 209 = { own := [], keep := [(1, [0, 2, 3, 8], [])] } := rfl
@[simp] theorem an210 : An.fn 210 = { own := [], keep := [] } := rfl
@[simp] theorem an211 : An.fn 211 = { own := [], keep := [] } := rfl
@[simp] theorem an212 : An.fn 212 = { own := [], keep := [] } := rfl
@[simp] theorem an213 : An.fn 213 = { own := [], keep := [] } := rfl
@[simp] theorem an214 : An.fn 214 = { own := [], keep := [] } := rfl
@[simp] theorem an215 : An.fn 215 = { own := [], keep := [] } := rfl
noncomputable def cxAt (k m : Nat) : Cx := { P := Try.prog, call := evalCall Try.prog An m, lend := An.lend, rounds := m, ann := An.fn k }
@[simp] theorem cxAt_P (k m : Nat) : (cxAt k m).P = Try.prog := rfl
@[simp] theorem cxAt_call (k m : Nat) : (cxAt k m).call = evalCall Try.prog An m := rfl
@[simp] theorem cxAt_lend (k m : Nat) : (cxAt k m).lend = An.lend := rfl
@[simp] theorem cxAt_rounds (k m : Nat) : (cxAt k m).rounds = m := rfl
@[simp] theorem cxAt_ann (k m : Nat) : (cxAt k m).ann = An.fn k := rfl
theorem evalCall_at (k m : Nat) (args : List AV) (lent : List Ob) : evalCall Try.prog An (m + 1) k args lent = bnd (fbody Try.prog k) fun fb => bnd (evalCode (cxAt k m) fb.body { env := argEnv 0 args, obs := lentObs 0 lent, g := 1 }) fun r => callRes Try.prog lent r fb.results := rfl
end Go.Proofs.YtkpcogaahgfmcaaE
