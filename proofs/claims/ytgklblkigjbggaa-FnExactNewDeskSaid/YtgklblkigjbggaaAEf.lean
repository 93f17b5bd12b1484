/- Facts of this program's types and functions, as the evaluator asks for them; written by a program of this session. -/
import Derived.Test.YtgklblkigjbggaaAEd
import Derived.Test.YtgklblkigjbggaaProg
import Derived.KernelRfl
namespace Go.Proofs.YtgklblkigjbggaaE
open Go Go.Proofs
@[simp] theorem tk2 : tk Try.prog 2 = TK.int IntKind.i64 := by kernel_rfl
@[simp] theorem sz2 : sz Try.prog 2 = 1 := by kernel_rfl
@[simp] theorem byts2 : byts Try.prog 2 = 8 := by kernel_rfl
@[simp] theorem zer2 : zer Try.prog 2 = some ((AV.d (D.int IntKind.i64 (0)))) := by kernel_rfl
@[simp] theorem tk3 : tk Try.prog 3 = TK.int IntKind.i64 := by kernel_rfl
@[simp] theorem sz3 : sz Try.prog 3 = 1 := by kernel_rfl
@[simp] theorem byts3 : byts Try.prog 3 = 8 := by kernel_rfl
@[simp] theorem zer3 : zer Try.prog 3 = some ((AV.d (D.int IntKind.i64 (0)))) := by kernel_rfl
@[simp] theorem tk4 : tk Try.prog 4 = TK.bool := by kernel_rfl
@[simp] theorem sz4 : sz Try.prog 4 = 1 := by kernel_rfl
@[simp] theorem byts4 : byts Try.prog 4 = 1 := by kernel_rfl
@[simp] theorem zer4 : zer Try.prog 4 = some ((AV.d (D.bool false))) := by kernel_rfl
@[simp] theorem tk9 : tk Try.prog 9 = TK.string := by kernel_rfl
@[simp] theorem sz9 : sz Try.prog 9 = 1 := by kernel_rfl
@[simp] theorem byts9 : byts Try.prog 9 = 16 := by kernel_rfl
@[simp] theorem zer9 : zer Try.prog 9 = some ((AV.d (D.str ByteArray.empty))) := by kernel_rfl
@[simp] theorem tk22 : tk Try.prog 22 = TK.slice 25 := by kernel_rfl
@[simp] theorem sz22 : sz Try.prog 22 = 1 := by kernel_rfl
@[simp] theorem byts22 : byts Try.prog 22 = 24 := by kernel_rfl
@[simp] theorem zer22 : zer Try.prog 22 = some ((AV.d D.nil)) := by kernel_rfl
@[simp] theorem tk24 : tk Try.prog 24 = TK.struct [(0, 22)] := by kernel_rfl
@[simp] theorem sz24 : sz Try.prog 24 = 1 := by kernel_rfl
@[simp] theorem byts24 : byts Try.prog 24 = 24 := by kernel_rfl
@[simp] theorem zer24 : zer Try.prog 24 = some ((AV.agg [AV.d D.nil])) := by kernel_rfl
@[simp] theorem tk25 : tk Try.prog 25 = TK.slice 2 := by kernel_rfl
@[simp] theorem sz25 : sz Try.prog 25 = 1 := by kernel_rfl
@[simp] theorem byts25 : byts Try.prog 25 = 24 := by kernel_rfl
@[simp] theorem zer25 : zer Try.prog 25 = some ((AV.d D.nil)) := by kernel_rfl
@[simp] theorem tk27 : tk Try.prog 27 = TK.struct [(0, 2), (1, 25)] := by kernel_rfl
@[simp] theorem sz27 : sz Try.prog 27 = 2 := by kernel_rfl
@[simp] theorem byts27 : byts Try.prog 27 = 32 := by kernel_rfl
@[simp] theorem zer27 : zer Try.prog 27 = some ((AV.agg [AV.d (D.int IntKind.i64 (0)), AV.d D.nil])) := by kernel_rfl
@[simp] theorem tk29 : tk Try.prog 29 = TK.struct [(0, 2), (1, 25)] := by kernel_rfl
@[simp] theorem sz29 : sz Try.prog 29 = 2 := by kernel_rfl
@[simp] theorem byts29 : byts Try.prog 29 = 32 := by kernel_rfl
@[simp] theorem zer29 : zer Try.prog 29 = some ((AV.agg [AV.d (D.int IntKind.i64 (0)), AV.d D.nil])) := by kernel_rfl
@[simp] theorem tk31 : tk Try.prog 31 = TK.struct [(0, 24), (1, 27), (3, 29)] := by kernel_rfl
@[simp] theorem sz31 : sz Try.prog 31 = 5 := by kernel_rfl
@[simp] theorem byts31 : byts Try.prog 31 = 88 := by kernel_rfl
@[simp] theorem zer31 : zer Try.prog 31 = some ((AV.agg [AV.d D.nil, AV.d (D.int IntKind.i64 (0)), AV.d D.nil, AV.d (D.int IntKind.i64 (0)), AV.d D.nil])) := by kernel_rfl
@[simp] theorem tk46 : tk Try.prog 46 = TK.func := by kernel_rfl
@[simp] theorem sz46 : sz Try.prog 46 = 1 := by kernel_rfl
@[simp] theorem byts46 : byts Try.prog 46 = 8 := by kernel_rfl
@[simp] theorem tk54 : tk Try.prog 54 = TK.int IntKind.u64 := by kernel_rfl
@[simp] theorem sz54 : sz Try.prog 54 = 1 := by kernel_rfl
@[simp] theorem byts54 : byts Try.prog 54 = 8 := by kernel_rfl
@[simp] theorem zer54 : zer Try.prog 54 = some ((AV.d (D.int IntKind.u64 (0)))) := by kernel_rfl
@[simp] theorem tk58 : tk Try.prog 58 = TK.int IntKind.u32 := by kernel_rfl
@[simp] theorem sz58 : sz Try.prog 58 = 1 := by kernel_rfl
@[simp] theorem byts58 : byts Try.prog 58 = 4 := by kernel_rfl
@[simp] theorem zer58 : zer Try.prog 58 = some ((AV.d (D.int IntKind.u32 (0)))) := by kernel_rfl
@[simp] theorem tk61 : tk Try.prog 61 = TK.int IntKind.u64 := by kernel_rfl
@[simp] theorem sz61 : sz Try.prog 61 = 1 := by kernel_rfl
@[simp] theorem byts61 : byts Try.prog 61 = 8 := by kernel_rfl
@[simp] theorem zer61 : zer Try.prog 61 = some ((AV.d (D.int IntKind.u64 (0)))) := by kernel_rfl
@[simp] theorem fb3 : fbody Try.prog 3 = some ⟨bodyOf Try.f3, 36, [.tmp 0]⟩ := by kernel_rfl
@[simp] theorem fb4 : fbody Try.prog 4 = some ⟨bodyOf Try.f4, 2, [.cell 0 31]⟩ := by kernel_rfl
@[simp] theorem fb5 : fbody Try.prog 5 = some ⟨bodyOf Try.f5, 7, [.cell 0 31]⟩ := by kernel_rfl
@[simp] theorem fb6 : fbody Try.prog 6 = some ⟨bodyOf Try.f6, 23, [.tmp 4]⟩ := by kernel_rfl
@[simp] theorem fb7 : fbody Try.prog 7 = some ⟨bodyOf Try.f7, 18, [.tmp 4]⟩ := by kernel_rfl
@[simp] theorem fb8 : fbody Try.prog 8 = some ⟨bodyOf Try.f8, 24, [.tmp 4]⟩ := by kernel_rfl
@[simp] theorem fb9 : fbody Try.prog 9 = some ⟨bodyOf Try.f9, 7, [.cell 0 31]⟩ := by kernel_rfl
@[simp] theorem fb10 : fbody Try.prog 10 = some ⟨bodyOf Try.f10, 6, [.cell 2 24]⟩ := by kernel_rfl
@[simp] theorem fb11 : fbody Try.prog 11 = some ⟨bodyOf Try.f11, 10, [.cell 4 31]⟩ := by kernel_rfl
@[simp] theorem fb12 : fbody Try.prog 12 = some ⟨bodyOf Try.f12, 12, [.cell 4 27]⟩ := by kernel_rfl
@[simp] theorem fb13 : fbody Try.prog 13 = some ⟨bodyOf Try.f13, 11, [.tmp 4]⟩ := by kernel_rfl
@[simp] theorem fb14 : fbody Try.prog 14 = some ⟨bodyOf Try.f14, 16, [.tmp 4]⟩ := by kernel_rfl
@[simp] theorem fb15 : fbody Try.prog 15 = some ⟨bodyOf Try.f15, 16, [.tmp 4]⟩ := by kernel_rfl
@[simp] theorem fb16 : fbody Try.prog 16 = some ⟨bodyOf Try.f16, 10, [.tmp 4]⟩ := by kernel_rfl
@[simp] theorem fb17 : fbody Try.prog 17 = some ⟨bodyOf Try.f17, 10, [.tmp 4]⟩ := by kernel_rfl
@[simp] theorem fb18 : fbody Try.prog 18 = some ⟨bodyOf Try.f18, 10, [.tmp 4]⟩ := by kernel_rfl
@[simp] theorem fb19 : fbody Try.prog 19 = some ⟨bodyOf Try.f19, 12, [.tmp 4]⟩ := by kernel_rfl
@[simp] theorem fb20 : fbody Try.prog 20 = some ⟨bodyOf Try.f20, 12, [.tmp 4]⟩ := by kernel_rfl
@[simp] theorem fb21 : fbody Try.prog 21 = some ⟨bodyOf Try.f21, 12, [.tmp 4]⟩ := by kernel_rfl
@[simp] theorem fb22 : fbody Try.prog 22 = some ⟨bodyOf Try.f22, 35, [.cell 2 24]⟩ := by kernel_rfl
@[simp] theorem fb23 : fbody Try.prog 23 = some ⟨bodyOf Try.f23, 10, [.cell 4 31]⟩ := by kernel_rfl
@[simp] theorem fb24 : fbody Try.prog 24 = some ⟨bodyOf Try.f24, 23, [.cell 4 27]⟩ := by kernel_rfl
@[simp] theorem fb25 : fbody Try.prog 25 = some ⟨bodyOf Try.f25, 35, [.cell 4 24]⟩ := by kernel_rfl
@[simp] theorem fb26 : fbody Try.prog 26 = some ⟨bodyOf Try.f26, 11, [.tmp 5]⟩ := by kernel_rfl
@[simp] theorem fb27 : fbody Try.prog 27 = some ⟨bodyOf Try.f27, 11, [.cell 4 29]⟩ := by kernel_rfl
@[simp] theorem fb28 : fbody Try.prog 28 = some ⟨bodyOf Try.f28, 48, [.tmp 4]⟩ := by kernel_rfl
@[simp] theorem fb29 : fbody Try.prog 29 = some ⟨bodyOf Try.f29, 27, [.tmp 4]⟩ := by kernel_rfl
@[simp] theorem fb30 : fbody Try.prog 30 = some ⟨bodyOf Try.f30, 26, [.tmp 4]⟩ := by kernel_rfl
@[simp] theorem fb31 : fbody Try.prog 31 = some ⟨bodyOf Try.f31, 19, [.tmp 4]⟩ := by kernel_rfl
@[simp] theorem fb32 : fbody Try.prog 32 = some ⟨bodyOf Try.f32, 19, [.tmp 4]⟩ := by kernel_rfl
@[simp] theorem fb33 : fbody Try.prog 33 = some ⟨bodyOf Try.f33, 21, [.tmp 4]⟩ := by kernel_rfl
@[simp] theorem fb34 : fbody Try.prog 34 = some ⟨bodyOf Try.f34, 21, [.tmp 4]⟩ := by kernel_rfl
@[simp] theorem fb35 : fbody Try.prog 35 = some ⟨bodyOf Try.f35, 11, [.cell 4 29]⟩ := by kernel_rfl
@[simp] theorem fb36 : fbody Try.prog 36 = some ⟨bodyOf Try.f36, 10, [.tmp 4]⟩ := by kernel_rfl
@[simp] theorem fb37 : fbody Try.prog 37 = some ⟨bodyOf Try.f37, 30, [.tmp 4, .tmp 5]⟩ := by kernel_rfl
@[simp] theorem fb38 : fbody Try.prog 38 = some ⟨bodyOf Try.f38, 16, [.tmp 4]⟩ := by kernel_rfl
@[simp] theorem fb39 : fbody Try.prog 39 = some ⟨bodyOf Try.f39, 14, [.tmp 4]⟩ := by kernel_rfl
@[simp] theorem fb40 : fbody Try.prog 40 = some ⟨bodyOf Try.f40, 6, [.tmp 2]⟩ := by kernel_rfl
@[simp] theorem fb41 : fbody Try.prog 41 = some ⟨bodyOf Try.f41, 17, [.tmp 4, .tmp 5]⟩ := by kernel_rfl
@[simp] theorem fb42 : fbody Try.prog 42 = some ⟨bodyOf Try.f42, 51, [.tmp 4, .tmp 5]⟩ := by kernel_rfl
@[simp] theorem fb43 : fbody Try.prog 43 = some ⟨bodyOf Try.f43, 6, [.tmp 2]⟩ := by kernel_rfl
def annL : List (Nat × FAnn) := [
  (3, { own := [], keep := [] }),
  (4, { own := [], keep := [] }),
  (5, { own := [], keep := [] }),
  (6, { own := [], keep := [] }),
  (7, { own := [], keep := [] }),
  (8, { own := [], keep := [] }),
  (9, { own := [], keep := [] }),
  (10, { own := [], keep := [] }),
  (11, { own := [], keep := [] }),
  (12, { own := [], keep := [] }),
  (13, { own := [], keep := [] }),
  (14, { own := [], keep := [] }),
  (15, { own := [], keep := [] }),
  (16, { own := [], keep := [] }),
  (17, { own := [], keep := [] }),
  (18, { own := [], keep := [] }),
  (19, { own := [], keep := [] }),
  (20, { own := [], keep := [] }),
  (21, { own := [], keep := [] }),
  (22, { own := [14], keep := [(3, [0, 2, 3, 4], [32, 48, 112, 512]), (7, [0, 2, 3, 4, 5, 6], [32, 48, 112, 224, 432, 512])] }),
  (23, { own := [], keep := [] }),
  (24, { own := [8], keep := [(3, [2, 4, 5, 6], [32, 64, 80, 128, 320])] }),
  (25, { own := [14], keep := [(3, [0, 1, 4, 5, 10, 11], [64, 80, 496]), (7, [0, 1, 4, 5, 6, 7, 10, 11, 15, 16], [64, 80, 224, 400, 496])] }),
  (26, { own := [], keep := [] }),
  (27, { own := [], keep := [] }),
  (28, { own := [], keep := [(8, [7, 8], [480])] }),
  (29, { own := [], keep := [(4, [0, 1, 5], [])] }),
  (30, { own := [], keep := [(4, [0, 1, 5], [])] }),
  (31, { own := [], keep := [(2, [0, 1, 5], [100000, 100001, 100002])] }),
  (32, { own := [], keep := [(2, [0, 1, 5], [100000, 100001, 100002])] }),
  (33, { own := [], keep := [(2, [0, 1, 5], [])] }),
  (34, { own := [], keep := [(2, [0, 1, 5], [])] }),
  (35, { own := [], keep := [] }),
  (36, { own := [], keep := [] }),
  (37, { own := [], keep := [] }),
  (38, { own := [], keep := [(2, [1, 2, 5], [32])] }),
  (39, { own := [], keep := [(3, [0, 5, 6, 7], [])] }),
  (40, { own := [], keep := [] }),
  (41, { own := [], keep := [] }),
  (42, { own := [], keep := [] }),
  (43, { own := [], keep := [] })]
def An : Ann := { lend := [7, 11, 16, 17, 18, 23, 31, 32], fn := fun k => (lookL annL k).getD {} }
@[simp] theorem an_lend : An.lend = [7, 11, 16, 17, 18, 23, 31, 32] := rfl
@[simp] theorem an3 : An.fn 3 = { own := [], keep := [] } := rfl
@[simp] theorem an4 : An.fn 4 = { own := [], keep := [] } := rfl
@[simp] theorem an5 : An.fn 5 = { own := [], keep := [] } := rfl
@[simp] theorem an6 : An.fn 6 = { own := [], keep := [] } := rfl
@[simp] theorem an7 : An.fn 7 = { own := [], keep := [] } := rfl
@[simp] theorem an8 : An.fn 8 = { own := [], keep := [] } := rfl
@[simp] theorem an9 : An.fn 9 = { own := [], keep := [] } := rfl
@[simp] theorem an10 : An.fn 10 = { own := [], keep := [] } := rfl
@[simp] theorem an11 : An.fn 11 = { own := [], keep := [] } := rfl
@[simp] theorem an12 : An.fn 12 = { own := [], keep := [] } := rfl
@[simp] theorem an13 : An.fn 13 = { own := [], keep := [] } := rfl
@[simp] theorem an14 : An.fn 14 = { own := [], keep := [] } := rfl
@[simp] theorem an15 : An.fn 15 = { own := [], keep := [] } := rfl
@[simp] theorem an16 : An.fn 16 = { own := [], keep := [] } := rfl
@[simp] theorem an17 : An.fn 17 = { own := [], keep := [] } := rfl
@[simp] theorem an18 : An.fn 18 = { own := [], keep := [] } := rfl
@[simp] theorem an19 : An.fn 19 = { own := [], keep := [] } := rfl
@[simp] theorem an20 : An.fn 20 = { own := [], keep := [] } := rfl
@[simp] theorem an21 : An.fn 21 = { own := [], keep := [] } := rfl
@[simp] theorem an22 : An.fn 22 = { own := [14], keep := [(3, [0, 2, 3, 4], [32, 48, 112, 512]), (7, [0, 2, 3, 4, 5, 6], [32, 48, 112, 224, 432, 512])] } := rfl
@[simp] theorem an23 : An.fn 23 = { own := [], keep := [] } := rfl
@[simp] theorem an24 : An.fn 24 = { own := [8], keep := [(3, [2, 4, 5, 6], [32, 64, 80, 128, 320])] } := rfl
@[simp] theorem an25 : An.fn 25 = { own := [14], keep := [(3, [0, 1, 4, 5, 10, 11], [64, 80, 496]), (7, [0, 1, 4, 5, 6, 7, 10, 11, 15, 16], [64, 80, 224, 400, 496])] } := rfl
@[simp] theorem an26 : An.fn 26 = { own := [], keep := [] } := rfl
@[simp] theorem an27 : An.fn 27 = { own := [], keep := [] } := rfl
@[simp] theorem an28 : An.fn 28 = { own := [], keep := [(8, [7, 8], [480])] } := rfl
@[simp] theorem an29 : An.fn 29 = { own := [], keep := [(4, [0, 1, 5], [])] } := rfl
@[simp] theorem an30 : An.fn 30 = { own := [], keep := [(4, [0, 1, 5], [])] } := rfl
@[simp] theorem an31 : An.fn 31 = { own := [], keep := [(2, [0, 1, 5], [100000, 100001, 100002])] } := rfl
@[simp] theorem an32 : An.fn 32 = { own := [], keep := [(2, [0, 1, 5], [100000, 100001, 100002])] } := rfl
@[simp] theorem an33 : An.fn 33 = { own := [], keep := [(2, [0, 1, 5], [])] } := rfl
@[simp] theorem an34 : An.fn 34 = { own := [], keep := [(2, [0, 1, 5], [])] } := rfl
@[simp] theorem an35 : An.fn 35 = { own := [], keep := [] } := rfl
@[simp] theorem an36 : An.fn 36 = { own := [], keep := [] } := rfl
@[simp] theorem an37 : An.fn 37 = { own := [], keep := [] } := rfl
@[simp] theorem an38 : An.fn 38 = { own := [], keep := [(2, [1, 2, 5], [32])] } := rfl
@[simp] theorem an39 : An.fn 39 = { own := [], keep := [(3, [0, 5, 6, 7], [])] } := rfl
@[simp] theorem an40 : An.fn 40 = { own := [], keep := [] } := rfl
@[simp] theorem an41 : An.fn 41 = { own := [], keep := [] } := rfl
@[simp] theorem an42 : An.fn 42 = { own := [], keep := [] } := rfl
@[simp] theorem an43 : An.fn 43 = { own := [], keep := [] } := rfl
noncomputable def cxAt (k m : Nat) : Cx := { P := Try.prog, call := evalCall Try.prog An m, lend := An.lend, rounds := m, ann := An.fn k }
@[simp] theorem cxAt_P (k m : Nat) : (cxAt k m).P = Try.prog := rfl
@[simp] theorem cxAt_call (k m : Nat) : (cxAt k m).call = evalCall Try.prog An m := rfl
@[simp] theorem cxAt_lend (k m : Nat) : (cxAt k m).lend = An.lend := rfl
@[simp] theorem cxAt_rounds (k m : Nat) : (cxAt k m).rounds = m := rfl
@[simp] theorem cxAt_ann (k m : Nat) : (cxAt k m).ann = An.fn k := rfl
theorem evalCall_at (k m : Nat) (args : List AV) (lent : List Ob) : evalCall Try.prog An (m + 1) k args lent = bnd (fbody Try.prog k) fun fb => bnd (evalCode (cxAt k m) fb.body { env := argEnv 0 args, obs := lentObs 0 lent, g := 1 }) fun r => callRes Try.prog lent r fb.results := rfl
end Go.Proofs.YtgklblkigjbggaaE
