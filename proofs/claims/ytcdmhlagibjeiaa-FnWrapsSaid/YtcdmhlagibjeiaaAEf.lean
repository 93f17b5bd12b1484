/- Facts of this program's types and functions, as the evaluator asks for them; written by a program of this session. -/
import Derived.Test.YtcdmhlagibjeiaaAEd
import Derived.Test.YtcdmhlagibjeiaaProg
import Derived.KernelRfl
namespace Go.Proofs.YtcdmhlagibjeiaaE
open Go Go.Proofs
@[simp] theorem tk2 : tk Try.prog 2 = TK.int IntKind.i64 := by kernel_rfl
@[simp] theorem sz2 : sz Try.prog 2 = 1 := by kernel_rfl
@[simp] theorem byts2 : byts Try.prog 2 = 8 := by kernel_rfl
@[simp] theorem zer2 : zer Try.prog 2 = some ((AV.d (D.int IntKind.i64 (0)))) := by kernel_rfl
@[simp] theorem tk3 : tk Try.prog 3 = TK.int IntKind.i64 := by kernel_rfl
@[simp] theorem sz3 : sz Try.prog 3 = 1 := by kernel_rfl
@[simp] theorem byts3 : byts Try.prog 3 = 8 := by kernel_rfl
@[simp] theorem zer3 : zer Try.prog 3 = some ((AV.d (D.int IntKind.i64 (0)))) := by kernel_rfl
@[simp] theorem tk4 : tk Try.prog 4 = TK.bool := by kernel_rfl
@[simp] theorem sz4 : sz Try.prog 4 = 1 := by kernel_rfl
@[simp] theorem byts4 : byts Try.prog 4 = 1 := by kernel_rfl
@[simp] theorem zer4 : zer Try.prog 4 = some ((AV.d (D.bool false))) := by kernel_rfl
@[simp] theorem tk5 : tk Try.prog 5 = TK.int IntKind.u8 := by kernel_rfl
@[simp] theorem sz5 : sz Try.prog 5 = 1 := by kernel_rfl
@[simp] theorem byts5 : byts Try.prog 5 = 1 := by kernel_rfl
@[simp] theorem zer5 : zer Try.prog 5 = some ((AV.d (D.int IntKind.u8 (0)))) := by kernel_rfl
@[simp] theorem tk9 : tk Try.prog 9 = TK.string := by kernel_rfl
@[simp] theorem sz9 : sz Try.prog 9 = 1 := by kernel_rfl
@[simp] theorem byts9 : byts Try.prog 9 = 16 := by kernel_rfl
@[simp] theorem zer9 : zer Try.prog 9 = some ((AV.d (D.str ByteArray.empty))) := by kernel_rfl
@[simp] theorem tk22 : tk Try.prog 22 = TK.slice 5 := by kernel_rfl
@[simp] theorem sz22 : sz Try.prog 22 = 1 := by kernel_rfl
@[simp] theorem byts22 : byts Try.prog 22 = 24 := by kernel_rfl
@[simp] theorem zer22 : zer Try.prog 22 = some ((AV.d D.nil)) := by kernel_rfl
@[simp] theorem tk26 : tk Try.prog 26 = TK.slice 2 := by kernel_rfl
@[simp] theorem sz26 : sz Try.prog 26 = 1 := by kernel_rfl
@[simp] theorem byts26 : byts Try.prog 26 = 24 := by kernel_rfl
@[simp] theorem zer26 : zer Try.prog 26 = some ((AV.d D.nil)) := by kernel_rfl
@[simp] theorem tk45 : tk Try.prog 45 = TK.slice 9 := by kernel_rfl
@[simp] theorem sz45 : sz Try.prog 45 = 1 := by kernel_rfl
@[simp] theorem byts45 : byts Try.prog 45 = 24 := by kernel_rfl
@[simp] theorem zer45 : zer Try.prog 45 = some ((AV.d D.nil)) := by kernel_rfl
@[simp] theorem tk47 : tk Try.prog 47 = TK.struct [(0, 2), (1, 26)] := by kernel_rfl
@[simp] theorem sz47 : sz Try.prog 47 = 2 := by kernel_rfl
@[simp] theorem byts47 : byts Try.prog 47 = 32 := by kernel_rfl
@[simp] theorem zer47 : zer Try.prog 47 = some ((AV.agg [AV.d (D.int IntKind.i64 (0)), AV.d D.nil])) := by kernel_rfl
@[simp] theorem tk51 : tk Try.prog 51 = TK.slice 26 := by kernel_rfl
@[simp] theorem sz51 : sz Try.prog 51 = 1 := by kernel_rfl
@[simp] theorem byts51 : byts Try.prog 51 = 24 := by kernel_rfl
@[simp] theorem zer51 : zer Try.prog 51 = some ((AV.d D.nil)) := by kernel_rfl
@[simp] theorem tk53 : tk Try.prog 53 = TK.struct [(0, 51)] := by kernel_rfl
@[simp] theorem sz53 : sz Try.prog 53 = 1 := by kernel_rfl
@[simp] theorem byts53 : byts Try.prog 53 = 24 := by kernel_rfl
@[simp] theorem zer53 : zer Try.prog 53 = some ((AV.agg [AV.d D.nil])) := by kernel_rfl
@[simp] theorem tk59 : tk Try.prog 59 = TK.struct [(0, 2), (1, 26)] := by kernel_rfl
@[simp] theorem sz59 : sz Try.prog 59 = 2 := by kernel_rfl
@[simp] theorem byts59 : byts Try.prog 59 = 32 := by kernel_rfl
@[simp] theorem zer59 : zer Try.prog 59 = some ((AV.agg [AV.d (D.int IntKind.i64 (0)), AV.d D.nil])) := by kernel_rfl
@[simp] theorem tk63 : tk Try.prog 63 = TK.func := by kernel_rfl
@[simp] theorem sz63 : sz Try.prog 63 = 1 := by kernel_rfl
@[simp] theorem byts63 : byts Try.prog 63 = 8 := by kernel_rfl
@[simp] theorem tk64 : tk Try.prog 64 = TK.func := by kernel_rfl
@[simp] theorem sz64 : sz Try.prog 64 = 1 := by kernel_rfl
@[simp] theorem byts64 : byts Try.prog 64 = 8 := by kernel_rfl
@[simp] theorem tk70 : tk Try.prog 70 = TK.other := by kernel_rfl
@[simp] theorem sz70 : sz Try.prog 70 = 1 := by kernel_rfl
@[simp] theorem byts70 : byts Try.prog 70 = 8 := by kernel_rfl
@[simp] theorem tk78 : tk Try.prog 78 = TK.func := by kernel_rfl
@[simp] theorem sz78 : sz Try.prog 78 = 1 := by kernel_rfl
@[simp] theorem byts78 : byts Try.prog 78 = 8 := by kernel_rfl
@[simp] theorem tk84 : tk Try.prog 84 = TK.slice 4 := by kernel_rfl
@[simp] theorem sz84 : sz Try.prog 84 = 1 := by kernel_rfl
@[simp] theorem byts84 : byts Try.prog 84 = 24 := by kernel_rfl
@[simp] theorem zer84 : zer Try.prog 84 = some ((AV.d D.nil)) := by kernel_rfl
@[simp] theorem tk85 : tk Try.prog 85 = TK.int IntKind.u64 := by kernel_rfl
@[simp] theorem sz85 : sz Try.prog 85 = 1 := by kernel_rfl
@[simp] theorem byts85 : byts Try.prog 85 = 8 := by kernel_rfl
@[simp] theorem zer85 : zer Try.prog 85 = some ((AV.d (D.int IntKind.u64 (0)))) := by kernel_rfl
@[simp] theorem tk87 : tk Try.prog 87 = TK.struct [(0, 22), (1, 3), (2, 85)] := by kernel_rfl
@[simp] theorem sz87 : sz Try.prog 87 = 3 := by kernel_rfl
@[simp] theorem byts87 : byts Try.prog 87 = 40 := by kernel_rfl
@[simp] theorem zer87 : zer Try.prog 87 = some ((AV.agg [AV.d D.nil, AV.d (D.int IntKind.i64 (0)), AV.d (D.int IntKind.u64 (0))])) := by kernel_rfl
@[simp] theorem tk90 : tk Try.prog 90 = TK.slice 47 := by kernel_rfl
@[simp] theorem sz90 : sz Try.prog 90 = 1 := by kernel_rfl
@[simp] theorem byts90 : byts Try.prog 90 = 24 := by kernel_rfl
@[simp] theorem zer90 : zer Try.prog 90 = some ((AV.d D.nil)) := by kernel_rfl
@[simp] theorem tk96 : tk Try.prog 96 = TK.slice 59 := by kernel_rfl
@[simp] theorem sz96 : sz Try.prog 96 = 1 := by kernel_rfl
@[simp] theorem byts96 : byts Try.prog 96 = 24 := by kernel_rfl
@[simp] theorem zer96 : zer Try.prog 96 = some ((AV.d D.nil)) := by kernel_rfl
@[simp] theorem fb3 : fbody Try.prog 3 = some ⟨bodyOf Try.f3, 450, [.tmp 2]⟩ := by kernel_rfl
@[simp] theorem fb4 : fbody Try.prog 4 = some ⟨bodyOf Try.f4, 203, [.tmp 2]⟩ := by kernel_rfl
@[simp] theorem fb5 : fbody Try.prog 5 = some ⟨bodyOf Try.f5, 6, [.tmp 2]⟩ := by kernel_rfl
@[simp] theorem fb6 : fbody Try.prog 6 = some ⟨bodyOf Try.f6, 23, [.tmp 2, .tmp 3, .tmp 4, .tmp 5]⟩ := by kernel_rfl
@[simp] theorem fb7 : fbody Try.prog 7 = some ⟨bodyOf Try.f7, 42, [.tmp 8, .tmp 9, .tmp 10]⟩ := by kernel_rfl
@[simp] theorem fb8 : fbody Try.prog 8 = some ⟨bodyOf Try.f8, 32, [.tmp 8, .tmp 9, .tmp 10]⟩ := by kernel_rfl
@[simp] theorem fb9 : fbody Try.prog 9 = some ⟨bodyOf Try.f9, 24, [.tmp 8, .tmp 9]⟩ := by kernel_rfl
@[simp] theorem fb10 : fbody Try.prog 10 = some ⟨bodyOf Try.f10, 38, [.tmp 8, .tmp 9]⟩ := by kernel_rfl
@[simp] theorem fb11 : fbody Try.prog 11 = some ⟨bodyOf Try.f11, 26, [.tmp 4]⟩ := by kernel_rfl
@[simp] theorem fb12 : fbody Try.prog 12 = some ⟨bodyOf Try.f12, 32, [.tmp 6]⟩ := by kernel_rfl
@[simp] theorem fb13 : fbody Try.prog 13 = some ⟨bodyOf Try.f13, 32, [.tmp 6]⟩ := by kernel_rfl
@[simp] theorem fb14 : fbody Try.prog 14 = some ⟨bodyOf Try.f14, 22, [.tmp 6, .tmp 7, .tmp 8]⟩ := by kernel_rfl
@[simp] theorem fb15 : fbody Try.prog 15 = some ⟨bodyOf Try.f15, 48, [.tmp 10, .tmp 11]⟩ := by kernel_rfl
@[simp] theorem fb16 : fbody Try.prog 16 = some ⟨bodyOf Try.f16, 18, [.tmp 4]⟩ := by kernel_rfl
@[simp] theorem fb17 : fbody Try.prog 17 = some ⟨bodyOf Try.f17, 25, [.tmp 2, .tmp 3, .tmp 4, .tmp 5, .tmp 6]⟩ := by kernel_rfl
@[simp] theorem fb18 : fbody Try.prog 18 = some ⟨bodyOf Try.f18, 51, [.tmp 10, .tmp 11]⟩ := by kernel_rfl
@[simp] theorem fb19 : fbody Try.prog 19 = some ⟨bodyOf Try.f19, 13, [.tmp 2, .tmp 3]⟩ := by kernel_rfl
@[simp] theorem fb20 : fbody Try.prog 20 = some ⟨bodyOf Try.f20, 24, [.tmp 4, .tmp 5]⟩ := by kernel_rfl
@[simp] theorem fb21 : fbody Try.prog 21 = some ⟨bodyOf Try.f21, 31, [.tmp 4, .tmp 5]⟩ := by kernel_rfl
@[simp] theorem fb22 : fbody Try.prog 22 = some ⟨bodyOf Try.f22, 18, [.tmp 2, .tmp 3, .tmp 4]⟩ := by kernel_rfl
@[simp] theorem fb23 : fbody Try.prog 23 = some ⟨bodyOf Try.f23, 17, [.tmp 6, .tmp 7]⟩ := by kernel_rfl
@[simp] theorem fb24 : fbody Try.prog 24 = some ⟨bodyOf Try.f24, 17, [.tmp 6, .tmp 7]⟩ := by kernel_rfl
@[simp] theorem fb25 : fbody Try.prog 25 = some ⟨bodyOf Try.f25, 27, [.tmp 2, .tmp 3, .tmp 4, .tmp 5]⟩ := by kernel_rfl
@[simp] theorem fb26 : fbody Try.prog 26 = some ⟨bodyOf Try.f26, 40, [.tmp 8, .tmp 9, .tmp 10, .tmp 11]⟩ := by kernel_rfl
@[simp] theorem fb27 : fbody Try.prog 27 = some ⟨bodyOf Try.f27, 37, [.tmp 8, .tmp 9, .tmp 10, .tmp 11]⟩ := by kernel_rfl
@[simp] theorem fb28 : fbody Try.prog 28 = some ⟨bodyOf Try.f28, 18, [.tmp 2, .tmp 3, .tmp 4]⟩ := by kernel_rfl
@[simp] theorem fb29 : fbody Try.prog 29 = some ⟨bodyOf Try.f29, 34, [.tmp 6, .tmp 7, .tmp 8]⟩ := by kernel_rfl
@[simp] theorem fb30 : fbody Try.prog 30 = some ⟨bodyOf Try.f30, 21, [.tmp 2, .tmp 3, .tmp 4, .tmp 5]⟩ := by kernel_rfl
@[simp] theorem fb31 : fbody Try.prog 31 = some ⟨bodyOf Try.f31, 33, [.cell 8 47, .tmp 9]⟩ := by kernel_rfl
@[simp] theorem fb32 : fbody Try.prog 32 = some ⟨bodyOf Try.f32, 60, [.cell 8 47, .tmp 9]⟩ := by kernel_rfl
@[simp] theorem fb33 : fbody Try.prog 33 = some ⟨bodyOf Try.f33, 17, [.tmp 4]⟩ := by kernel_rfl
@[simp] theorem fb34 : fbody Try.prog 34 = some ⟨bodyOf Try.f34, 53, [.cell 2 53, .tmp 3]⟩ := by kernel_rfl
@[simp] theorem fb35 : fbody Try.prog 35 = some ⟨bodyOf Try.f35, 21, [.tmp 6, .tmp 7]⟩ := by kernel_rfl
@[simp] theorem fb36 : fbody Try.prog 36 = some ⟨bodyOf Try.f36, 21, [.tmp 2, .tmp 3, .tmp 4, .tmp 5]⟩ := by kernel_rfl
@[simp] theorem fb37 : fbody Try.prog 37 = some ⟨bodyOf Try.f37, 35, [.cell 8 47, .tmp 9]⟩ := by kernel_rfl
@[simp] theorem fb38 : fbody Try.prog 38 = some ⟨bodyOf Try.f38, 58, [.cell 8 47, .tmp 9]⟩ := by kernel_rfl
@[simp] theorem fb39 : fbody Try.prog 39 = some ⟨bodyOf Try.f39, 65, [.tmp 2, .tmp 3, .tmp 4, .tmp 5, .tmp 6]⟩ := by kernel_rfl
@[simp] theorem fb40 : fbody Try.prog 40 = some ⟨bodyOf Try.f40, 22, [.tmp 8]⟩ := by kernel_rfl
@[simp] theorem fb41 : fbody Try.prog 41 = some ⟨bodyOf Try.f41, 25, [.tmp 8, .tmp 9]⟩ := by kernel_rfl
@[simp] theorem fb42 : fbody Try.prog 42 = some ⟨bodyOf Try.f42, 42, [.tmp 4]⟩ := by kernel_rfl
@[simp] theorem fb43 : fbody Try.prog 43 = some ⟨bodyOf Try.f43, 16, [.tmp 2]⟩ := by kernel_rfl
@[simp] theorem fb44 : fbody Try.prog 44 = some ⟨bodyOf Try.f44, 11, [.tmp 4]⟩ := by kernel_rfl
@[simp] theorem fb45 : fbody Try.prog 45 = some ⟨bodyOf Try.f45, 11, [.tmp 4]⟩ := by kernel_rfl
@[simp] theorem fb46 : fbody Try.prog 46 = some ⟨bodyOf Try.f46, 12, [.tmp 4]⟩ := by kernel_rfl
@[simp] theorem fb47 : fbody Try.prog 47 = some ⟨bodyOf Try.f47, 19, [.tmp 8]⟩ := by kernel_rfl
@[simp] theorem fb48 : fbody Try.prog 48 = some ⟨bodyOf Try.f48, 66, [.tmp 8, .tmp 9]⟩ := by kernel_rfl
@[simp] theorem fb49 : fbody Try.prog 49 = some ⟨bodyOf Try.f49, 28, [.tmp 8]⟩ := by kernel_rfl
@[simp] theorem fb50 : fbody Try.prog 50 = some ⟨bodyOf Try.f50, 27, [.tmp 8, .tmp 9]⟩ := by kernel_rfl
@[simp] theorem fb51 : fbody Try.prog 51 = some ⟨bodyOf Try.f51, 17, [.tmp 4]⟩ := by kernel_rfl
@[simp] theorem fb52 : fbody Try.prog 52 = some ⟨bodyOf Try.f52, 18, [.tmp 4]⟩ := by kernel_rfl
@[simp] theorem fb53 : fbody Try.prog 53 = some ⟨bodyOf Try.f53, 18, [.tmp 6]⟩ := by kernel_rfl
@[simp] theorem fb54 : fbody Try.prog 54 = some ⟨bodyOf Try.f54, 15, [.tmp 6]⟩ := by kernel_rfl
@[simp] theorem fb55 : fbody Try.prog 55 = some ⟨bodyOf Try.f55, 20, [.tmp 6]⟩ := by kernel_rfl
@[simp] theorem fb56 : fbody Try.prog 56 = some ⟨bodyOf Try.f56, 21, [.tmp 4]⟩ := by kernel_rfl
@[simp] theorem fb57 : fbody Try.prog 57 = some ⟨bodyOf Try.f57, 38, [.tmp 2]⟩ := by kernel_rfl
@[simp] theorem fb58 : fbody Try.prog 58 = some ⟨bodyOf Try.f58, 17, [.tmp 4]⟩ := by kernel_rfl
@[simp] theorem fb59 : fbody Try.prog 59 = some ⟨bodyOf Try.f59, 10, [.tmp 4]⟩ := by kernel_rfl
@[simp] theorem fb60 : fbody Try.prog 60 = some ⟨bodyOf Try.f60, 60, [.tmp 2, .tmp 3, .tmp 4]⟩ := by kernel_rfl
@[simp] theorem fb61 : fbody Try.prog 61 = some ⟨bodyOf Try.f61, 24, [.tmp 6]⟩ := by kernel_rfl
@[simp] theorem fb62 : fbody Try.prog 62 = some ⟨bodyOf Try.f62, 23, [.tmp 6]⟩ := by kernel_rfl
@[simp] theorem fb63 : fbody Try.prog 63 = some ⟨bodyOf Try.f63, 12, [.tmp 4]⟩ := by kernel_rfl
@[simp] theorem fb64 : fbody Try.prog 64 = some ⟨bodyOf Try.f64, 78, [.tmp 4, .tmp 5, .tmp 6, .tmp 7]⟩ := by kernel_rfl
@[simp] theorem fb65 : fbody Try.prog 65 = some ⟨bodyOf Try.f65, 29, [.tmp 8]⟩ := by kernel_rfl
@[simp] theorem fb66 : fbody Try.prog 66 = some ⟨bodyOf Try.f66, 38, [.cell 8 47]⟩ := by kernel_rfl
@[simp] theorem fb67 : fbody Try.prog 67 = some ⟨bodyOf Try.f67, 6, [.cell 2 53]⟩ := by kernel_rfl
@[simp] theorem fb68 : fbody Try.prog 68 = some ⟨bodyOf Try.f68, 15, [.tmp 4]⟩ := by kernel_rfl
@[simp] theorem fb69 : fbody Try.prog 69 = some ⟨bodyOf Try.f69, 29, [.tmp 8]⟩ := by kernel_rfl
@[simp] theorem fb70 : fbody Try.prog 70 = some ⟨bodyOf Try.f70, 8, [.tmp 4]⟩ := by kernel_rfl
@[simp] theorem fb71 : fbody Try.prog 71 = some ⟨bodyOf Try.f71, 35, [.cell 4 53]⟩ := by kernel_rfl
@[simp] theorem fb72 : fbody Try.prog 72 = some ⟨bodyOf Try.f72, 17, [.tmp 4]⟩ := by kernel_rfl
@[simp] theorem fb73 : fbody Try.prog 73 = some ⟨bodyOf Try.f73, 9, [.cell 4 53]⟩ := by kernel_rfl
@[simp] theorem fb74 : fbody Try.prog 74 = some ⟨bodyOf Try.f74, 11, [.tmp 5]⟩ := by kernel_rfl
@[simp] theorem fb75 : fbody Try.prog 75 = some ⟨bodyOf Try.f75, 26, [.tmp 6]⟩ := by kernel_rfl
@[simp] theorem fb76 : fbody Try.prog 76 = some ⟨bodyOf Try.f76, 22, [.tmp 6]⟩ := by kernel_rfl
@[simp] theorem fb77 : fbody Try.prog 77 = some ⟨bodyOf Try.f77, 14, [.tmp 5]⟩ := by kernel_rfl
@[simp] theorem fb78 : fbody Try.prog 78 = some ⟨bodyOf Try.f78, 58, [.tmp 4]⟩ := by kernel_rfl
@[simp] theorem fb79 : fbody Try.prog 79 = some ⟨bodyOf Try.f79, 19, [.tmp 4]⟩ := by kernel_rfl
@[simp] theorem fb80 : fbody Try.prog 80 = some ⟨bodyOf Try.f80, 12, [.tmp 4]⟩ := by kernel_rfl
@[simp] theorem fb81 : fbody Try.prog 81 = some ⟨bodyOf Try.f81, 11, [.cell 4 47]⟩ := by kernel_rfl
@[simp] theorem fb82 : fbody Try.prog 82 = some ⟨bodyOf Try.f82, 32, [.tmp 6]⟩ := by kernel_rfl
@[simp] theorem fb83 : fbody Try.prog 83 = some ⟨bodyOf Try.f83, 11, [.tmp 5]⟩ := by kernel_rfl
@[simp] theorem fb84 : fbody Try.prog 84 = some ⟨bodyOf Try.f84, 53, [.tmp 6]⟩ := by kernel_rfl
@[simp] theorem fb85 : fbody Try.prog 85 = some ⟨bodyOf Try.f85, 23, [.tmp 4]⟩ := by kernel_rfl
@[simp] theorem fb86 : fbody Try.prog 86 = some ⟨bodyOf Try.f86, 27, [.tmp 6]⟩ := by kernel_rfl
@[simp] theorem fb87 : fbody Try.prog 87 = some ⟨bodyOf Try.f87, 15, [.cell 6 47]⟩ := by kernel_rfl
@[simp] theorem fb88 : fbody Try.prog 88 = some ⟨bodyOf Try.f88, 10, [.tmp 4]⟩ := by kernel_rfl
@[simp] theorem fb89 : fbody Try.prog 89 = some ⟨bodyOf Try.f89, 6, [.tmp 2]⟩ := by kernel_rfl
@[simp] theorem fb90 : fbody Try.prog 90 = some ⟨bodyOf Try.f90, 110, [.tmp 2]⟩ := by kernel_rfl
@[simp] theorem fb91 : fbody Try.prog 91 = some ⟨bodyOf Try.f91, 77, [.tmp 4]⟩ := by kernel_rfl
@[simp] theorem fb92 : fbody Try.prog 92 = some ⟨bodyOf Try.f92, 9, [.tmp 2]⟩ := by kernel_rfl
@[simp] theorem fb93 : fbody Try.prog 93 = some ⟨bodyOf Try.f93, 11, [.tmp 5]⟩ := by kernel_rfl
@[simp] theorem fb94 : fbody Try.prog 94 = some ⟨bodyOf Try.f94, 79, [.tmp 8]⟩ := by kernel_rfl
@[simp] theorem fb95 : fbody Try.prog 95 = some ⟨bodyOf Try.f95, 14, [.tmp 4]⟩ := by kernel_rfl
@[simp] theorem fb96 : fbody Try.prog 96 = some ⟨bodyOf Try.f96, 9, [.tmp 4]⟩ := by kernel_rfl
@[simp] theorem fb97 : fbody Try.prog 97 = some ⟨bodyOf Try.f97, 9, [.tmp 2]⟩ := by kernel_rfl
@[simp] theorem fb98 : fbody Try.prog 98 = some ⟨bodyOf Try.f98, 24, [.tmp 4]⟩ := by kernel_rfl
@[simp] theorem fb99 : fbody Try.prog 99 = some ⟨bodyOf Try.f99, 18, [.tmp 6]⟩ := by kernel_rfl
@[simp] theorem fb100 : fbody Try.prog 100 = some ⟨bodyOf Try.f100, 19, [.tmp 4]⟩ := by kernel_rfl
@[simp] theorem fb101 : fbody Try.prog 101 = some ⟨bodyOf Try.f101, 26, [.tmp 4]⟩ := by kernel_rfl
def annL : List (Nat × FAnn) := [
  (3, { own := [], keep := [(15, [0, 3, 4, 5, 6, 7, 8, 20], [1328, 1329, 1330, 1331]), (39, [34, 35, 36, 51, 52, 53, 54, 68], [4512, 4513, 4514, 4515])] }),
  (4, { own := [79, 155], keep := [(13, [0, 3, 4, 5, 6, 8, 12, 13, 14, 15, 16], [128, 192, 576, 784, 785, 786, 787, 1216, 1217, 1218, 1219, 1264, 1408]), (29, [19, 20, 21, 22, 23, 27, 28, 29, 30, 31], [368, 432, 2000, 2001, 2002, 2003, 2432, 2433, 2434, 2435, 2480, 2624])] }),
  (5, { own := [], keep := [] }),
  (6, { own := [], keep := [] }),
  (7, { own := [], keep := [] }),
  (8, { own := [], keep := [] }),
  (9, { own := [], keep := [] }),
  (10, { own := [], keep := [] }),
  (11, { own := [], keep := [(4, [0, 1, 5], [])] }),
  (12, { own := [], keep := [] }),
  (13, { own := [], keep := [] }),
  (14, { own := [], keep := [] }),
  (15, { own := [], keep := [] }),
  (16, { own := [], keep := [(2, [0, 1, 5], [])] }),
  (17, { own := [], keep := [] }),
  (18, { own := [], keep := [] }),
  (19, { own := [], keep := [] }),
  (20, { own := [], keep := [] }),
  (21, { own := [16], keep := [(5, [0, 1, 6, 7], [256, 464])] }),
  (22, { own := [], keep := [] }),
  (23, { own := [], keep := [] }),
  (24, { own := [], keep := [] }),
  (25, { own := [], keep := [] }),
  (26, { own := [], keep := [] }),
  (27, { own := [], keep := [] }),
  (28, { own := [], keep := [] }),
  (29, { own := [], keep := [] }),
  (30, { own := [], keep := [] }),
  (31, { own := [], keep := [] }),
  (32, { own := [31], keep := [(8, [0, 3, 8, 11, 12], [128, 176, 496, 832, 912]), (11, [0, 3, 8, 11, 12, 13], [128, 176, 496, 832, 912])] }),
  (33, { own := [], keep := [] }),
  (34, { own := [], keep := [] }),
  (35, { own := [], keep := [] }),
  (36, { own := [], keep := [] }),
  (37, { own := [], keep := [] }),
  (38, { own := [33], keep := [(8, [0, 1, 2, 3, 8, 11, 12, 13], [128, 176, 528, 880])] }),
  (39, { own := [], keep := [] }),
  (40, { own := [], keep := [] }),
  (41, { own := [], keep := [] }),
  (42, { own := [], keep := [(5, [0, 1, 5, 6], [100000, 100001, 100002])] }),
  (43, { own := [5], keep := [(3, [3, 6, 7], [80, 208])] }),
  (44, { own := [], keep := [] }),
  (45, { own := [], keep := [] }),
  (46, { own := [], keep := [(1, [0, 1], [])] }),
  (47, { own := [], keep := [] }),
  (48, { own := [27, 28], keep := [(4, [1, 10, 11, 12, 13, 14, 15], [416, 432, 448, 880, 1008]), (8, [1, 10, 12, 13, 14, 16], [416, 432, 448, 880, 1008])] }),
  (49, { own := [], keep := [] }),
  (50, { own := [], keep := [] }),
  (51, { own := [], keep := [(1, [0, 1], [])] }),
  (52, { own := [], keep := [] }),
  (53, { own := [], keep := [(3, [0, 1, 7, 8, 9], [])] }),
  (54, { own := [], keep := [] }),
  (55, { own := [], keep := [(2, [0, 1, 2, 7], [])] }),
  (56, { own := [], keep := [(2, [0, 7, 8, 9], [])] }),
  (57, { own := [], keep := [(3, [0, 3, 4], [176])] }),
  (58, { own := [], keep := [] }),
  (59, { own := [], keep := [] }),
  (60, { own := [], keep := [] }),
  (61, { own := [], keep := [(3, [0, 1, 7, 8, 9, 10], [])] }),
  (62, { own := [], keep := [(3, [0, 1, 2, 7, 8], [])] }),
  (63, { own := [], keep := [] }),
  (64, { own := [], keep := [] }),
  (65, { own := [], keep := [] }),
  (66, { own := [], keep := [(3, [1, 2, 3, 4, 8, 9, 16, 17], [64, 128, 144, 208, 209, 210, 211])] }),
  (67, { own := [], keep := [] }),
  (68, { own := [], keep := [] }),
  (69, { own := [], keep := [] }),
  (70, { own := [], keep := [] }),
  (71, { own := [14], keep := [(3, [0, 1, 4, 5, 10, 11], [64, 80, 496]), (7, [0, 1, 4, 5, 6, 7, 10, 11, 15, 16], [64, 80, 224, 400, 496])] }),
  (72, { own := [], keep := [] }),
  (73, { own := [], keep := [] }),
  (74, { own := [], keep := [] }),
  (75, { own := [], keep := [(4, [3, 4, 14, 15, 16], [48, 64])] }),
  (76, { own := [], keep := [(2, [13, 14, 15], [192, 193, 194, 195])] }),
  (77, { own := [], keep := [] }),
  (78, { own := [], keep := [] }),
  (79, { own := [], keep := [(2, [0, 1, 7, 8], [])] }),
  (80, { own := [], keep := [] }),
  (81, { own := [], keep := [] }),
  (82, { own := [], keep := [(3, [2, 7, 8, 9], [176])] }),
  (83, { own := [], keep := [] }),
  (84, { own := [], keep := [] }),
  (85, { own := [], keep := [(2, [2, 7, 8, 9], [32])] }),
  (86, { own := [], keep := [] }),
  (87, { own := [], keep := [] }),
  (88, { own := [], keep := [] }),
  (89, { own := [], keep := [] }),
  (90, { own := [], keep := [(5, [1, 3, 18, 19, 20], [16]), (11, [1, 3, 35, 36], [16]), (16, [1, 3, 6, 35, 36, 68, 69], [16]), (19, [1, 3, 6, 7, 35, 36, 68, 69, 72, 73], [16])] }),
  (91, { own := [], keep := [(4, [2, 3, 29, 30, 31], [32, 48]), (10, [2, 3, 42, 43], [32, 48]), (13, [2, 3, 7, 42, 43, 47, 48], [32, 48])] }),
  (92, { own := [], keep := [] }),
  (93, { own := [], keep := [] }),
  (94, { own := [34], keep := [(5, [3, 4, 6, 9, 10, 11, 30, 31], [64, 96])] }),
  (95, { own := [], keep := [(3, [0, 5, 6, 7], [])] }),
  (96, { own := [], keep := [] }),
  (97, { own := [], keep := [] }),
  (98, { own := [], keep := [(3, [2, 5, 8, 9, 10], [32])] }),
  (99, { own := [], keep := [] }),
  (100, { own := [], keep := [(2, [0, 1, 7, 8], [])] }),
  (101, { own := [], keep := [(3, [2, 5, 8, 9, 10], [32])] })]
def An : Ann := { lend := [42, 58, 60, 63, 78], fn := fun k => (lookL annL k).getD {} }
@[simp] theorem an_lend : An.lend = [42, 58, 60, 63, 78] := rfl
@[simp] theorem an3 : An.fn 3 = { own := [], keep := [(15, [0, 3, 4, 5, 6, 7, 8, 20], [1328, 1329, 1330, 1331]), (39, [34, 35, 36, 51, 52, 53, 54, 68], [4512, 4513, 4514, 4515])] } := rfl
@[simp] theorem an4 : An.fn 4 = { own := [79, 155], keep := [(13, [0, 3, 4, 5, 6, 8, 12, 13, 14, 15, 16], [128, 192, 576, 784, 785, 786, 787, 1216, 1217, 1218, 1219, 1264, 1408]), (29, [19, 20, 21, 22, 23, 27, 28, 29, 30, 31], [368, 432, 2000, 2001, 2002, 2003, 2432, 2433, 2434, 2435, 2480, 2624])] } := rfl
@[simp] theorem an5 : An.fn 5 = { own := [], keep := [] } := rfl
@[simp] theorem an6 : An.fn 6 = { own := [], keep := [] } := rfl
@[simp] theorem an7 : An.fn 7 = { own := [], keep := [] } := rfl
@[simp] theorem an8 : An.fn 8 = { own := [], keep := [] } := rfl
@[simp] theorem an9 : An.fn 9 = { own := [], keep := [] } := rfl
@[simp] theorem an10 : An.fn 10 = { own := [], keep := [] } := rfl
@[simp] theorem an11 : An.fn 11 = { own := [], keep := [(4, [0, 1, 5], [])] } := rfl
@[simp] theorem an12 : An.fn 12 = { own := [], keep := [] } := rfl
@[simp] theorem an13 : An.fn 13 = { own := [], keep := [] } := rfl
@[simp] theorem an14 : An.fn 14 = { own := [], keep := [] } := rfl
@[simp] theorem an15 : An.fn 15 = { own := [], keep := [] } := rfl
@[simp] theorem an16 : An.fn 16 = { own := [], keep := [(2, [0, 1, 5], [])] } := rfl
@[simp] theorem an17 : An.fn 17 = { own := [], keep := [] } := rfl
@[simp] theorem an18 : An.fn 18 = { own := [], keep := [] } := rfl
@[simp] theorem an19 : An.fn 19 = { own := [], keep := [] } := rfl
@[simp] theorem an20 : An.fn 20 = { own := [], keep := [] } := rfl
@[simp] theorem an21 : An.fn 21 = { own := [16], keep := [(5, [0, 1, 6, 7], [256, 464])] } := rfl
@[simp] theorem an22 : An.fn 22 = { own := [], keep := [] } := rfl
@[simp] theorem an23 : An.fn 23 = { own := [], keep := [] } := rfl
@[simp] theorem an24 : An.fn 24 = { own := [], keep := [] } := rfl
@[simp] theorem an25 : An.fn 25 = { own := [], keep := [] } := rfl
@[simp] theorem an26 : An.fn 26 = { own := [], keep := [] } := rfl
@[simp] theorem an27 : An.fn 27 = { own := [], keep := [] } := rfl
@[simp] theorem an28 : An.fn 28 = { own := [], keep := [] } := rfl
@[simp] theorem an29 : An.fn 29 = { own := [], keep := [] } := rfl
@[simp] theorem an30 : An.fn 30 = { own := [], keep := [] } := rfl
@[simp] theorem an31 : An.fn 31 = { own := [], keep := [] } := rfl
@[simp] theorem an32 : An.fn 32 = { own := [31], keep := [(8, [0, 3, 8, 11, 12], [128, 176, 496, 832, 912]), (11, [0, 3, 8, 11, 12, 13], [128, 176, 496, 832, 912])] } := rfl
@[simp] theorem an33 : An.fn 33 = { own := [], keep := [] } := rfl
@[simp] theorem an34 : An.fn 34 = { own := [], keep := [] } := rfl
@[simp] theorem an35 : An.fn 35 = { own := [], keep := [] } := rfl
@[simp] theorem an36 : An.fn 36 = { own := [], keep := [] } := rfl
@[simp] theorem an37 : An.fn 37 = { own := [], keep := [] } := rfl
@[simp] theorem an38 : An.fn 38 = { own := [33], keep := [(8, [0, 1, 2, 3, 8, 11, 12, 13], [128, 176, 528, 880])] } := rfl
@[simp] theorem an39 : An.fn 39 = { own := [], keep := [] } := rfl
@[simp] theorem an40 : An.fn 40 = { own := [], keep := [] } := rfl
@[simp] theorem an41 : An.fn 41 = { own := [], keep := [] } := rfl
@[simp] theorem an42 : An.fn 42 = { own := [], keep := [(5, [0, 1, 5, 6], [100000, 100001, 100002])] } := rfl
@[simp] theorem an43 : An.fn 43 = { own := [5], keep := [(3, [3, 6, 7], [80, 208])] } := rfl
@[simp] theorem an44 : An.fn 44 = { own := [], keep := [] } := rfl
@[simp] theorem an45 : An.fn 45 = { own := [], keep := [] } := rfl
@[simp] theorem an46 : An.fn 46 = { own := [], keep := [(1, [0, 1], [])] } := rfl
@[simp] theorem an47 : An.fn 47 = { own := [], keep := [] } := rfl
@[simp] theorem an48 : An.fn 48 = { own := [27, 28], keep := [(4, [1, 10, 11, 12, 13, 14, 15], [416, 432, 448, 880, 1008]), (8, [1, 10, 12, 13, 14, 16], [416, 432, 448, 880, 1008])] } := rfl
@[simp] theorem an49 : An.fn 49 = { own := [], keep := [] } := rfl
@[simp] theorem an50 : An.fn 50 = { own := [], keep := [] } := rfl
@[simp] theorem an51 : An.fn 51 = { own := [], keep := [(1, [0, 1], [])] } := rfl
@[simp] theorem an52 : An.fn 52 = { own := [], keep := [] } := rfl
@[simp] theorem an53 : An.fn 53 = { own := [], keep := [(3, [0, 1, 7, 8, 9], [])] } := rfl
@[simp] theorem an54 : An.fn 54 = { own := [], keep := [] } := rfl
@[simp] theorem an55 : An.fn 55 = { own := [], keep := [(2, [0, 1, 2, 7], [])] } := rfl
@[simp] theorem an56 : An.fn 56 = { own := [], keep := [(2, [0, 7, 8, 9], [])] } := rfl
@[simp] theorem an57 : An.fn 57 = { own := [], keep := [(3, [0, 3, 4], [176])] } := rfl
@[simp] theorem an58 : An.fn 58 = { own := [], keep := [] } := rfl
@[simp] theorem an59 : An.fn 59 = { own := [], keep := [] } := rfl
@[simp] theorem an60 : An.fn 60 = { own := [], keep := [] } := rfl
@[simp] theorem an61 : An.fn 61 = { own := [], keep := [(3, [0, 1, 7, 8, 9, 10], [])] } := rfl
@[simp] theorem an62 : An.fn 62 = { own := [], keep := [(3, [0, 1, 2, 7, 8], [])] } := rfl
@[simp] theorem an63 : An.fn 63 = { own := [], keep := [] } := rfl
@[simp] theorem an64 : An.fn 64 = { own := [], keep := [] } := rfl
@[simp] theorem an65 : An.fn 65 = { own := [], keep := [] } := rfl
@[simp] theorem an66 : An.fn 66 = { own := [], keep := [(3, [1, 2, 3, 4, 8, 9, 16, 17], [64, 128, 144, 208, 209, 210, 211])] } := rfl
@[simp] theorem an67 : An.fn 67 = { own := [], keep := [] } := rfl
@[simp] theorem an68 : An.fn 68 = { own := [], keep := [] } := rfl
@[simp] theorem an69 : An.fn 69 = { own := [], keep := [] } := rfl
@[simp] theorem an70 : An.fn 70 = { own := [], keep := [] } := rfl
@[simp] theorem an71 : An.fn 71 = { own := [14], keep := [(3, [0, 1, 4, 5, 10, 11], [64, 80, 496]), (7, [0, 1, 4, 5, 6, 7, 10, 11, 15, 16], [64, 80, 224, 400, 496])] } := rfl
@[simp] theorem an72 : An.fn 72 = { own := [], keep := [] } := rfl
@[simp] theorem an73 : An.fn 73 = { own := [], keep := [] } := rfl
@[simp] theorem an74 : An.fn 74 = { own := [], keep := [] } := rfl
@[simp] theorem an75 : An.fn 75 = { own := [], keep := [(4, [3, 4, 14, 15, 16], [48, 64])] } := rfl
@[simp] theorem an76 : An.fn 76 = { own := [], keep := [(2, [13, 14, 15], [192, 193, 194, 195])] } := rfl
@[simp] theorem an77 : An.fn 77 = { own := [], keep := [] } := rfl
@[simp] theorem an78 : An.fn 78 = { own := [], keep := [] } := rfl
@[simp] theorem an79 : An.fn 79 = { own := [], keep := [(2, [0, 1, 7, 8], [])] } := rfl
@[simp] theorem an80 : An.fn 80 = { own := [], keep := [] } := rfl
@[simp] theorem an81 : An.fn 81 = { own := [], keep := [] } := rfl
@[simp] theorem an82 : An.fn 82 = { own := [], keep := [(3, [2, 7, 8, 9], [176])] } := rfl
@[simp] theorem an83 : An.fn 83 = { own := [], keep := [] } := rfl
@[simp] theorem an84 : An.fn 84 = { own := [], keep := [] } := rfl
@[simp] theorem an85 : An.fn 85 = { own := [], keep := [(2, [2, 7, 8, 9], [32])] } := rfl
@[simp] theorem an86 : An.fn 86 = { own := [], keep := [] } := rfl
@[simp] theorem an87 : An.fn 87 = { own := [], keep := [] } := rfl
@[simp] theorem an88 : An.fn 88 = { own := [], keep := [] } := rfl
@[simp] theorem an89 : An.fn 89 = { own := [], keep := [] } := rfl
@[simp] theorem an90 : An.fn 90 = { own := [], keep := [(5, [1, 3, 18, 19, 20], [16]), (11, [1, 3, 35, 36], [16]), (16, [1, 3, 6, 35, 36, 68, 69], [16]), (19, [1, 3, 6, 7, 35, 36, 68, 69, 72, 73], [16])] } := rfl
@[simp] theorem an91 : An.fn 91 = { own := [], keep := [(4, [2, 3, 29, 30, 31], [32, 48]), (10, [2, 3, 42, 43], [32, 48]), (13, [2, 3, 7, 42, 43, 47, 48], [32, 48])] } := rfl
@[simp] theorem an92 : An.fn 92 = { own := [], keep := [] } := rfl
@[simp] theorem an93 : An.fn 93 = { own := [], keep := [] } := rfl
@[simp] theorem an94 : An.fn 94 = { own := [34], keep := [(5, [3, 4, 6, 9, 10, 11, 30, 31], [64, 96])] } := rfl
@[simp] theorem an95 : An.fn 95 = { own := [], keep := [(3, [0, 5, 6, 7], [])] } := rfl
@[simp] theorem an96 : An.fn 96 = { own := [], keep := [] } := rfl
@[simp] theorem an97 : An.fn 97 = { own := [], keep := [] } := rfl
@[simp] theorem an98 : An.fn 98 = { own := [], keep := [(3, [2, 5, 8, 9, 10], [32])] } := rfl
@[simp] theorem an99 : An.fn 99 = { own := [], keep := [] } := rfl
@[simp] theorem an100 : An.fn 100 = { own := [], keep := [(2, [0, 1, 7, 8], [])] } := rfl
@[simp] theorem an101 : An.fn 101 = { own := [], keep := [(3, [2, 5, 8, 9, 10], [32])] } := rfl
noncomputable def cxAt (k m : Nat) : Cx := { P := Try.prog, call := evalCall Try.prog An m, lend := An.lend, rounds := m, ann := An.fn k }
@[simp] theorem cxAt_P (k m : Nat) : (cxAt k m).P = Try.prog := rfl
@[simp] theorem cxAt_call (k m : Nat) : (cxAt k m).call = evalCall Try.prog An m := rfl
@[simp] theorem cxAt_lend (k m : Nat) : (cxAt k m).lend = An.lend := rfl
@[simp] theorem cxAt_rounds (k m : Nat) : (cxAt k m).rounds = m := rfl
@[simp] theorem cxAt_ann (k m : Nat) : (cxAt k m).ann = An.fn k := rfl
theorem evalCall_at (k m : Nat) (args : List AV) (lent : List Ob) : evalCall Try.prog An (m + 1) k args lent = bnd (fbody Try.prog k) fun fb => bnd (evalCode (cxAt k m) fb.body { env := argEnv 0 args, obs := lentObs 0 lent, g := 1 }) fun r => callRes Try.prog lent r fb.results := rfl
end Go.Proofs.YtcdmhlagibjeiaaE
