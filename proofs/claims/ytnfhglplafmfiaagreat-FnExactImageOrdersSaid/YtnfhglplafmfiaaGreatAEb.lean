/- Soundness of the evaluator, second part: its operations. -/
import Derived.Test.YtnfhglplafmfiaaGreatAEa
import Derived.Laws.Tables
import Derived.IntWalk
namespace Go.Proofs.YtnfhglplafmfiaaGreatE
set_option linter.unusedSectionVars false
set_option linter.unusedSimpArgs false
set_option linter.unusedVariables false
open Go
set_option linter.unusedSectionVars false

section
variable {P : Program} {n0 : Nat} {M : Nat → Prop} {F : Frz} {β : Beta} {U : Nat → Prop} {O : Nat → Option (Nat × Ob)} {look : Nat → Option AV} {a : Act} {w : World} {ver : Nat} {h : Heap}
variable {cx : Cx} (hP : cx.P = P) (H : Hyp n0 M F β U O look a w ver) {out : Out} {dst : Option Tmp} {ty : TypeId} {pos : String} {aft : Array Edge} {gd : Option (Nat × Bool)}

/-- An inner row of a closed table. -/
theorem inn_row (I : Inv n0 M F β U O h) {id r i : Nat} {v : Value} (hv : ∀ L, β id = some (r, L) → L.inner[i]? = some v) {op : Bool} {rows : List (List D)} {row : List D}
    (hat : at_ O id r = some (.mat op rows)) (hrow : rows[i]? = some row) : RowV F h row v ∧ ∃ L, β id = some (r, L) ∧ L.inner[i]? = some v := by
  obtain ⟨L, hL, l, l', c, e, inner, hh, hs, hi', g1, g2, g3, g4, g5⟩ := I.objs id r _ (at_iff.1 hat)
  have hin := hv L hL
  cases op with
  | true => rw [g3] at hin; simp at hin
  | false =>
    have hin' := hin
    rw [g3] at hin'
    simp only [Bool.false_eq_true, if_false] at hin'
    exact ⟨g2 i row v hrow hin', L, hL, hin⟩

/-- An inner row of a pool. -/
theorem inn_per (I : Inv n0 M F β U O h) {id r i : Nat} {v : Value} (hv : ∀ L, β id = some (r, L) → L.inner[i]? = some v) {w' : Nat} {rows : List (List D)} {cells : List PC} {row : List D}
    (hat : at_ O id r = some (.per w' rows cells)) (hrow : rows[i]? = some row) : RowV F h row v ∧ ∃ L, β id = some (r, L) ∧ L.inner[i]? = some v := by
  obtain ⟨L, hL, l0, l, l', hi2, _, g2, g4, g5⟩ := I.objs id r _ (at_iff.1 hat)
  exact ⟨g2 i row v hrow (hv L hL), L, hL, hv L hL⟩

theorem RowV.len {r : List D} {x : Value} (hr : RowV F h r x) : ∃ A c, x = .slice A r.length c := by
  rcases hr with ⟨rfl, rfl⟩ | ⟨b, o, cap, rfl, _⟩
  · exact ⟨none, 0, rfl⟩
  · exact ⟨_, _, rfl⟩

theorem lenA_rep (I : Inv n0 M F β U O h) {x : AV} {v : Value} {n : Nat} (r : VRep F h β U x v) (hn : lenA O x = some n) :
    (∃ A c, v = .slice A n c ∧ n ≤ c) ∨ ∃ s, v = .string s ∧ n = s.size ∧ x = .d (.str s) := by
  cases r with
  | d x v hd =>
    cases hd with
    | nil => simp only [lenA, Option.some.injEq] at hn; subst hn; exact .inl ⟨none, 0, rfl, Nat.le_refl _⟩
    | sl s cells A len cap vs hl hc hv hm hr =>
      simp only [lenA] at hn
      obtain ⟨hs1, hn2⟩ := ite_some.1 hn
      clear hn
      have hn := hn2
      clear hn2
      subst hs1
      simp only [Option.some.injEq, Nat.mul_one] at hn hl
      subst hn
      exact .inl ⟨A, cap, by rw [hl], by omega⟩
    | str s => simp only [lenA, Option.some.injEq] at hn; exact .inr ⟨s, rfl, hn.symm, rfl⟩
    | pin cells A len cap vs hl hc hv hm hr =>
      simp only [lenA, Option.some.injEq] at hn
      exact .inl ⟨A, cap, by rw [← hl, hn], by omega⟩
    | _ => simp [lenA] at hn
  | own id r v ho hu hv =>
    simp only [lenA] at hn
    split at hn
    · rename_i cells hat
      obtain ⟨L, hL, f, l, c, e, _, _, l2, _⟩ := I.objs id r _ (at_iff.1 hat)
      simp only [Option.some.injEq] at hn; subst hn
      exact .inl ⟨_, _, by rw [← l]; exact hv L hL, l2⟩
    · rename_i op rows hat
      obtain ⟨L, hL, l, l', _⟩ := I.objs id r _ (at_iff.1 hat)
      simp only [Option.some.injEq] at hn; subst hn
      exact .inl ⟨_, _, by rw [← l]; exact hv L hL, by omega⟩
    · rename_i w' rows cells hat
      obtain ⟨L, hL, l0, l, l', _⟩ := I.objs id r _ (at_iff.1 hat)
      simp only [Option.some.injEq] at hn; subst hn
      rw [l, Nat.mul_div_cancel _ l0]
      exact .inl ⟨_, _, hv L hL, l'⟩
    · simp at hn
  | sub id r off len v ho hu hv =>
    simp only [lenA] at hn
    split at hn
    · rename_i cells hat
      obtain ⟨L, hL, f, l, c, e, _, _, l2, _⟩ := I.objs id r _ (at_iff.1 hat)
      simp only [Option.some.injEq] at hn; subst hn
      obtain ⟨h1, o, h2, _, _⟩ := hv L hL
      exact .inl ⟨_, _, h2, by omega⟩
    · rename_i w' rows cells hat
      obtain ⟨L, hL, l0, l, l', _⟩ := I.objs id r _ (at_iff.1 hat)
      simp only [Option.some.injEq] at hn; subst hn
      obtain ⟨h1, o, h2, _, _⟩ := hv L hL
      exact .inl ⟨_, _, h2, by omega⟩
    · simp at hn
  | inn id r i v ho hu hv =>
    simp only [lenA] at hn
    split at hn
    · rename_i op rows hat
      obtain ⟨row, hrow, hn⟩ := bnd_eq_some.1 hn
      simp only [Option.some.injEq] at hn; subst hn
      obtain ⟨hr, _⟩ := inn_row I hv hat hrow
      rcases hr with ⟨rfl, rfl⟩ | ⟨b, o, cap, rfl, c, e, _, _, h3, _⟩
      · exact .inl ⟨none, 0, rfl, Nat.le_refl _⟩
      · exact .inl ⟨_, _, rfl, h3⟩
    · rename_i w' rows cells hat
      obtain ⟨row, hrow, hn⟩ := bnd_eq_some.1 hn
      simp only [Option.some.injEq] at hn; subst hn
      obtain ⟨hr, _⟩ := inn_per I hv hat hrow
      rcases hr with ⟨rfl, rfl⟩ | ⟨b, o, cap, rfl, c, e, _, _, h3, _⟩
      · exact .inl ⟨none, 0, rfl, Nat.le_refl _⟩
      · exact .inl ⟨_, _, rfl, h3⟩
    · simp at hn
  | _ => simp [lenA] at hn

/-- What the elements of a slice stand for. -/
def Elems (F : Frz) (h : Heap) (more : List D) (v : Value) : Prop :=
  ∃ (A : Option Addr) (c : Nat) (vs : List Value), v = .slice A more.length c ∧ vs.length = more.length ∧ (∀ (j : Nat) (u : Value), vs[j]? = some u → ∃ b off, A = some ⟨b, off, none⟩ ∧ cellAt h b (off + j) = some u) ∧
    ∀ (j : Nat) (x : D) (u : Value), more[j]? = some x → vs[j]? = some u → DRep F h x u

theorem lenC_rep (I : Inv n0 M F β U O h) {x : AV} {v : Value} {n : Nat} (r : VRep F h β U x v) (hn : lenC O x = some n) :
    (∃ A c, v = .slice A n c ∧ n ≤ c) ∨ ∃ s, v = .string s ∧ n = s.size ∧ x = .d (.str s) := by
  unfold lenC at hn
  split at hn
  · rename_i s cells
    obtain ⟨h0, hn⟩ := ite_some.1 hn
    cases r with
    | d x v hd =>
      cases hd with
      | sl _ _ A len cap vs hl hc hv hm hr =>
        simp only [Option.some.injEq] at hn
        subst hn
        rw [hl, Nat.mul_div_cancel _ h0]
        exact .inl ⟨A, cap, rfl, hc⟩
  · exact lenA_rep I r hn

theorem RowB.elems {b o cap : Nat} {cells : List D} (hr : RowB F h b o cap cells) {len off : Nat} (hl : off + len ≤ cells.length) {o' c : Nat} (ho : off < cap → o' = o + off) :
    Elems F h ((cells.drop off).take len) (.slice (some ⟨b, o', none⟩) len c) := by
  have hlen : ((cells.drop off).take len).length = len := by simp; omega
  obtain ⟨cs, e, hh, hs, hlc, hx⟩ := hr
  have hvl : ((cs.toList.drop (o + off)).take len).length = len := by simp; omega
  have get : ∀ {j : Nat} {u : Value}, ((cs.toList.drop (o + off)).take len)[j]? = some u → j < len ∧ cs[o + (off + j)]? = some u := by
    intro j u hu
    have hj : j < len := by have := (List.getElem?_eq_some_iff.1 hu).1; omega
    rw [List.getElem?_take, if_pos hj, List.getElem?_drop, Array.getElem?_toList, Nat.add_assoc] at hu
    exact ⟨hj, hu⟩
  refine ⟨_, c, (cs.toList.drop (o + off)).take len, by rw [hlen], by rw [hvl, hlen], fun j u hu => ?_, fun j x u hx' hu => ?_⟩
  · obtain ⟨hj, hu⟩ := get hu
    refine ⟨b, o', rfl, ?_⟩
    rw [ho (by omega), Nat.add_assoc, cellAt_of hh]
    exact hu
  · obtain ⟨hj, hu⟩ := get hu
    rw [List.getElem?_take, if_pos hj, List.getElem?_drop] at hx'
    obtain ⟨_, v, h1, h2⟩ := hx _ _ hx'
    rw [hu] at h1
    rw [Option.some.inj h1]; exact h2

theorem elemsA_rep (I : Inv n0 M F β U O h) {x : AV} {v : Value} {more : List D} (r : VRep F h β U x v) (hn : elemsA O x = some more) : Elems F h more v := by
  have empty : ∀ {v : Value}, v = .slice none 0 0 → Elems F h [] v := fun e => ⟨none, 0, [], e, rfl, fun j u hu => by simp at hu, fun j x u hx _ => by simp at hx⟩
  have whole : ∀ {b o cap : Nat} {cells : List D}, RowB F h b o cap cells → Elems F h cells (.slice (some ⟨b, o, none⟩) cells.length cap) := by
    intro b o cap cells hB
    have := hB.elems (F := F) (len := cells.length) (off := 0) (o' := o) (c := cap) (by omega) (fun _ => rfl)
    simpa using this
  cases r with
  | d x v hd =>
    cases hd with
    | nil => simp only [elemsA, Option.some.injEq] at hn; subst hn; exact empty rfl
    | sl s cells A len cap vs hl hc hv hm hr =>
      simp only [elemsA] at hn
      obtain ⟨hs1, hn2⟩ := ite_some.1 hn
      clear hn
      have hn := hn2
      clear hn2
      subst hs1
      simp only [Option.some.injEq, Nat.mul_one] at hn hl
      subst hn
      refine ⟨A, cap, vs, by rw [hl], hv.symm, fun j u hu => ?_, hr⟩
      obtain ⟨b, off, hA, _, hcell⟩ := hm j u hu
      exact ⟨b, off, hA, hcell⟩
    | pin cells A len cap vs hl hc hv hm hr =>
      simp only [elemsA, Option.some.injEq] at hn
      subst hn
      refine ⟨A, cap, vs, by rw [hl], hv.symm, fun j u hu => ?_, fun j x u hx hu => ?_⟩
      · obtain ⟨b, off, hA, _, hcell⟩ := hm j u hu
        exact ⟨b, off, hA, hcell⟩
      · obtain ⟨h1, h2⟩ := hr j x u hx hu
        rw [h2]; exact pv_rep h1
    | _ => simp [elemsA] at hn
  | own id r v ho hu hv =>
    simp only [elemsA] at hn
    split at hn
    · rename_i cells hat
      obtain ⟨L, hL, f, l, hB⟩ := I.objs id r _ (at_iff.1 hat)
      simp only [Option.some.injEq] at hn; subst hn
      rw [hv L hL, l]
      exact whole hB
    · simp at hn
  | sub id r off len v ho hu hv =>
    simp only [elemsA] at hn
    split at hn
    · rename_i cells hat
      obtain ⟨L, hL, f, l, hB⟩ := I.objs id r _ (at_iff.1 hat)
      simp only [Option.some.injEq] at hn; subst hn
      obtain ⟨h1, o, h2, h3, _⟩ := hv L hL
      rw [h2]
      exact hB.elems (by omega) h3
    · simp at hn
  | inn id r i v ho hu hv =>
    simp only [elemsA] at hn
    split at hn
    · rename_i op rows hat
      obtain ⟨hr, _⟩ := inn_row I hv hat hn
      rcases hr with ⟨rfl, e⟩ | ⟨b, o, cap, e, hB⟩
      · exact empty e
      · rw [e]; exact whole hB
    · rename_i w' rows cells hat
      obtain ⟨hr, _⟩ := inn_per I hv hat hn
      rcases hr with ⟨rfl, e⟩ | ⟨b, o, cap, e, hB⟩
      · exact empty e
      · rw [e]; exact whole hB
    · simp at hn
  | _ => simp [elemsA] at hn

include hP H

theorem op_indexAddr {t : TypeId} {x y : Operand} (h : evalOp cx look O ver ⟨dst, .indexAddr t x y, ty, pos, aft, gd⟩ = some out) :
    Does P ⟨dst, .indexAddr t x y, ty, pos, aft, gd⟩ a w (Post n0 M F β U O w ver out) := by
  subst hP
  simp only [evalOp] at h
  split at h
  · rename_i e htk
    obtain ⟨v, hv, h1⟩ := bnd_eq_some.1 h
    obtain ⟨i, hi, h2⟩ := bnd_eq_some.1 h1
    clear h h1
    obtain ⟨h0, h⟩ := ite_some.1 h2
    clear h2
    obtain ⟨yv, hy, hi⟩ := bnd_eq_some.1 hi
    obtain ⟨k, hk⟩ := asInt_rep (opnd_rep H hy) hi
    have rv := opnd_rep H hv
    have hund := tk_slice htk
    have run : ∀ {b o len cap : Nat}, a.eval x = .slice (some ⟨b, o, none⟩) len cap → i < len → (∃ inf, cx.P.info? e = some inf) →
        (execOp a.eval ⟨dst, .indexAddr t x y, ty, pos, aft, gd⟩).run cx.P w = .ok (.value (.pointer (some ⟨b, o + i.toNat * sz cx.P e, none⟩))) w := by
      intro b o len cap he hlt ⟨inf, hinf⟩
      have ha : (⟨b, o, none⟩ : Addr).add (i.toNat * sz cx.P e) = ⟨b, o + i.toNat * sz cx.P e, none⟩ := by unfold Addr.add; by_cases h0 : i.toNat * sz cx.P e = 0 <;> simp [h0]
      simp [execOp, Instr.indexAt, hk, asIntOf, run_und hund, he, h0, hlt, run_sizeOf hinf, ha]
    have info : sz cx.P e ≠ 0 → ∃ inf, cx.P.info? e = some inf := by
      intro hne
      cases hinf : cx.P.info? e with
      | some inf => exact ⟨inf, rfl⟩
      | none => exact absurd (by simp [sz, hinf]) hne
    have hin : (i.toNat : Int) = i := Int.toNat_of_nonneg h0
    generalize he : a.eval x = xv at rv
    split at h
    · rename_i n cells
      obtain ⟨⟨hn, hlt⟩, h⟩ := ite_some.1 h
      have h := Option.some.inj h
      subst h
      cases rv with
      | d _ _ hd =>
        cases hd with
        | sl s cells A len cap vs hl hc hvs hm hr =>
          have hne : sz cx.P e ≠ 0 := by intro e0; rw [hn, e0] at hl; simp at hl; rw [hl] at hlt; simp at hlt
          have hlt' : i.toNat < len := by rw [hl] at hlt; exact Nat.lt_of_mul_lt_mul_right hlt
          have hvl : i.toNat * n < vs.length := by omega
          obtain ⟨b, o, hA, hF, _⟩ := hm (i.toNat * n) vs[i.toNat * n] (by simp [hvl])
          subst hA
          refine .inl ⟨_, w, run he (by omega) (info hne), Post.pure H.I (.d _ _ ?_)⟩
          rw [← hn]
          refine .cellp _ b _ (vs.drop (i.toNat * n)) (by simp [hvs]) ?_ ?_
          · intro j u hu
            rw [List.getElem?_drop] at hu
            obtain ⟨b', o', hA', hF', hcell⟩ := hm _ u hu
            simp only [Option.some.injEq, Addr.mk.injEq] at hA'
            obtain ⟨rfl, rfl, _⟩ := hA'
            exact ⟨b, _, rfl, hF', by rw [Nat.add_assoc]; exact hcell⟩
          · intro j z u hz hu
            rw [List.getElem?_drop] at hz hu
            exact hr _ z u hz hu
    · rename_i cells
      obtain ⟨⟨hn1, hlt⟩, h⟩ := ite_some.1 h
      have h := Option.some.inj h
      subst h
      cases rv with
      | d _ _ hd =>
        cases hd with
        | pin _ A len cap vs hl hc hvs hm hr =>
          have hvl : i.toNat < vs.length := by omega
          obtain ⟨b, o, hA, hF, _⟩ := hm i.toNat vs[i.toNat] (by simp [hvl])
          subst hA
          refine .inl ⟨_, w, run he (by omega) (info (by omega)), Post.pure H.I (.d _ _ ?_)⟩
          rw [hn1, Nat.mul_one]
          refine .cellp _ b _ (vs.drop i.toNat) (by simp [hvs]) ?_ ?_
          · intro j u hu
            rw [List.getElem?_drop] at hu
            obtain ⟨b', o', hA', hF', hcell⟩ := hm _ u hu
            simp only [Option.some.injEq, Addr.mk.injEq] at hA'
            obtain ⟨rfl, rfl, _⟩ := hA'
            exact ⟨b, _, rfl, hF'.1, by rw [Nat.add_assoc]; exact hcell⟩
          · intro j z u hz hu
            rw [List.getElem?_drop] at hz hu
            obtain ⟨hp, rfl⟩ := hr _ z u hz hu
            exact pv_rep hp
    · rename_i id r
      obtain ⟨hs1, h⟩ := ite_some.1 h
      obtain ⟨n, hn, h⟩ := bnd_eq_some.1 h
      obtain ⟨hlt, h⟩ := ite_some.1 h
      have h := Option.some.inj h
      subst h
      have hlen := lenA_rep H.I rv hn
      cases rv with
      | own _ _ _ ho hu hvv =>
        have hlive : ∃ L, β id = some (r, L) := by
          simp only [lenA] at hn
          split at hn
          · rename_i hat; obtain ⟨L, hL, _⟩ := H.I.objs id r _ (at_iff.1 hat); exact ⟨L, hL⟩
          · rename_i hat; obtain ⟨L, hL, _⟩ := H.I.objs id r _ (at_iff.1 hat); exact ⟨L, hL⟩
          · rename_i hat; obtain ⟨L, hL, _⟩ := H.I.objs id r _ (at_iff.1 hat); exact ⟨L, hL⟩
          · simp at hn
        obtain ⟨L, hL⟩ := hlive
        have hval := hvv L hL
        rcases hlen with ⟨A, c, e1, _⟩ | ⟨s, e1, _⟩
        · rw [hval] at e1
          simp only [Value.slice.injEq] at e1
          refine .inl ⟨_, w, run (he.trans hval) (by rw [e1.2.1]; exact hlt) (info (by omega)), Post.pure H.I (.ptr _ _ _ _ rfl hu fun L' hL' => ?_)⟩
          rw [hL] at hL'
          simp only [Option.some.injEq, Prod.mk.injEq, true_and] at hL'
          subst hL'
          simp [hs1]
        · rw [hval] at e1; simp at e1
    · rename_i id r off n
      obtain ⟨⟨hs1, hlt⟩, h⟩ := ite_some.1 h
      obtain ⟨ob, hat, h⟩ := bnd_eq_some.1 h
      have h := Option.some.inj h
      subst h
      cases rv with
      | sub _ _ _ _ _ ho hu hvv =>
        obtain ⟨L, hL, hrep⟩ := H.I.objs id r _ (at_iff.1 hat)
        have hcap : L.len ≤ L.cap := by
          cases ob with
          | box cells => exact hrep.2.2.1
          | row cells => obtain ⟨_, l, _, _, _, _, h3, _⟩ := hrep; omega
          | mat op rows => exact hrep.2.1
          | per w' rows cells => exact hrep.2.2.1
        obtain ⟨h1, o, h2, h3, _⟩ := hvv L hL
        refine .inl ⟨_, w, run (he.trans h2) hlt (info (by omega)), Post.pure H.I (.ptr _ _ _ _ rfl hu fun L' hL' => ?_)⟩
        rw [hL] at hL'
        simp only [Option.some.injEq, Prod.mk.injEq, true_and] at hL'
        subst hL'
        rw [h3 (by omega), hs1]
        simp [Nat.add_assoc]
    · rename_i id r k'
      obtain ⟨hs1, h⟩ := ite_some.1 h
      obtain ⟨n, hn, h⟩ := bnd_eq_some.1 h
      obtain ⟨hlt, h⟩ := ite_some.1 h
      have h := Option.some.inj h
      subst h
      cases rv with
      | inn _ _ _ _ ho hu hvv =>
        simp only [lenA] at hn
        split at hn
        · rename_i op rows hat
          obtain ⟨row, hrow, hn⟩ := bnd_eq_some.1 hn
          simp only [Option.some.injEq] at hn; subst hn
          obtain ⟨hr, L, hL, hin2⟩ := inn_row H.I hvv hat hrow
          rcases hr with ⟨rfl, e1⟩ | ⟨b, o, cap, e1, hB⟩
          · simp at hlt; omega
          · refine .inl ⟨_, w, run (he.trans e1) hlt (info (by omega)), Post.pure H.I (.innp _ _ _ _ _ rfl hu fun L' hL' => ?_)⟩
            rw [hL] at hL'
            simp only [Option.some.injEq, Prod.mk.injEq, true_and] at hL'
            subst hL'
            exact ⟨b, o, _, _, by rw [hin2, e1], by simp [hs1]⟩
        · rename_i w' rows cells hat
          obtain ⟨row, hrow, hn⟩ := bnd_eq_some.1 hn
          simp only [Option.some.injEq] at hn; subst hn
          obtain ⟨hr, L, hL, hin2⟩ := inn_per H.I hvv hat hrow
          rcases hr with ⟨rfl, e1⟩ | ⟨b, o, cap, e1, hB⟩
          · simp at hlt; omega
          · refine .inl ⟨_, w, run (he.trans e1) hlt (info (by omega)), Post.pure H.I (.innp _ _ _ _ _ rfl hu fun L' hL' => ?_)⟩
            rw [hL] at hL'
            simp only [Option.some.injEq, Prod.mk.injEq, true_and] at hL'
            subst hL'
            exact ⟨b, o, _, _, by rw [hin2, e1], by simp [hs1]⟩
        · simp at hn
    · simp at h
  · simp at h

theorem op_index {t : TypeId} {x y : Operand} (h : evalOp cx look O ver ⟨dst, .index t x y, ty, pos, aft, gd⟩ = some out) :
    Does P ⟨dst, .index t x y, ty, pos, aft, gd⟩ a w (Post n0 M F β U O w ver out) := by
  subst hP
  simp only [evalOp] at h
  split at h
  · rename_i htk
    obtain ⟨v, hv, h1⟩ := bnd_eq_some.1 h
    obtain ⟨i, hi, h2⟩ := bnd_eq_some.1 h1
    obtain ⟨yv, hy, hi⟩ := bnd_eq_some.1 hi
    obtain ⟨k, hk⟩ := asInt_rep (opnd_rep H hy) hi
    have rv := opnd_rep H hv
    generalize he : a.eval x = xv at rv
    clear h h1
    split at h2
    · rename_i s
      obtain ⟨h0, h⟩ := ite_some.1 h2
      obtain ⟨b, hb, h⟩ := bnd_eq_some.1 h
      have h := Option.some.inj h
      subst h
      cases rv with
      | d _ _ hd =>
        cases hd
        refine .inl ⟨_, w, ?_, Post.pure H.I (.d _ _ (.int _ _))⟩
        simp [execOp, Instr.index, hk, asIntOf, run_und (tk_string htk), he, h0, hb]
    · simp at h2
  · simp at h

omit hP in
theorem op_nilCheck {x : Operand} (h : evalOp cx look O ver ⟨dst, .nilCheck x, ty, pos, aft, gd⟩ = some out) :
    Does P ⟨dst, .nilCheck x, ty, pos, aft, gd⟩ a w (Post n0 M F β U O w ver out) := by
  simp only [evalOp] at h
  obtain ⟨v, hv, h1⟩ := bnd_eq_some.1 h
  have rv := opnd_rep H hv
  clear h
  have fin : ∀ {u : Value}, a.eval x = u → (∃ A, u = .pointer (some A)) ∨ (∃ f p q, u = .func (.func f) p q) → VRep F w.heap β U v u → out = { val := v } → Does P ⟨dst, .nilCheck x, ty, pos, aft, gd⟩ a w (Post n0 M F β U O w ver out) := by
    intro u hu hc r ho
    subst ho
    refine .inl ⟨u, w, ?_, Post.pure H.I r⟩
    rcases hc with ⟨A, rfl⟩ | ⟨f, p, q, rfl⟩ <;> simp [execOp, hu]
  generalize he : a.eval x = u at rv
  split at h1
  · obtain ⟨ob, hat, h⟩ := bnd_eq_some.1 h1
    have h := Option.some.inj h
    refine fin he ?_ rv h.symm
    cases rv with
    | ptr id r off _ ho hu hv' =>
      obtain ⟨L, hL, _⟩ := H.I.objs _ _ _ (at_iff.1 hat)
      exact .inl ⟨_, hv' L hL⟩
  · refine fin he ?_ rv (Option.some.inj h1).symm
    cases rv with
    | d _ _ hd => cases hd; exact .inl ⟨_, rfl⟩
  · refine fin he ?_ rv (Option.some.inj h1).symm
    cases rv; exact .inr ⟨_, _, _, rfl⟩
  · refine fin he ?_ rv (Option.some.inj h1).symm
    cases rv with
    | d _ _ hd => cases hd; exact .inr ⟨_, _, _, rfl⟩
  · simp at h1
end
end Go.Proofs.YtnfhglplafmfiaaGreatE

namespace Go.Proofs.YtnfhglplafmfiaaGreatE
set_option linter.unusedSectionVars false
set_option linter.unusedSimpArgs false
set_option linter.unusedVariables false
open Go
set_option linter.unusedSectionVars false

section
variable {P : Program} {n0 : Nat} {M : Nat → Prop} {F : Frz} {β : Beta} {U : Nat → Prop} {O : Nat → Option (Nat × Ob)} {look : Nat → Option AV} {a : Act} {w : World} {ver : Nat} {h : Heap}
variable {cx : Cx} (hP : cx.P = P) (H : Hyp n0 M F β U O look a w ver) {out : Out} {dst : Option Tmp} {ty : TypeId} {pos : String} {aft : Array Edge} {gd : Option (Nat × Bool)}

theorem info_sz {t : TypeId} (h : sz P t ≠ 0) : ∃ i, P.info? t = some i := by
  cases hi : P.info? t with
  | some i => exact ⟨i, rfl⟩
  | none => exact absurd (by simp [sz, hi]) h

theorem run_slice {t e : TypeId} (ht : P.underlying t = some (.slice e)) (hs : sz P e = 1) {A : Option Addr} {len cap : Nat} {lo hi : Option Value} {l r : Int}
    (hl : (match lo with | none => some (0 : Int) | some v => (match v with | .int _ n => some n | _ => none)) = some l)
    (hr : (match hi with | none => some (len : Int) | some v => (match v with | .int _ n => some n | _ => none)) = some r) (h0 : 0 ≤ l) (h1 : l ≤ r) (h2 : r ≤ len) (h3 : len ≤ cap) :
    (Instr.sliceAt t (.slice A len cap) lo hi none).run P w = .ok (.slice (if cap = l.toNat then A else A.map (·.add l.toNat)) (r.toNat - l.toNat) (cap - l.toNat)) w := by
  obtain ⟨i, hi'⟩ := info_sz (P := P) (t := e) (by omega)
  have hb : (Instr.sliceBounds true len cap lo hi none).run P w = .ok (l.toNat, r.toNat, cap) w := by
    cases lo with
    | none =>
      simp only [Option.some.injEq] at hl; subst hl
      cases hi with
      | none => simp only [Option.some.injEq] at hr; subst hr; simp [Instr.sliceBounds]
      | some v =>
        cases v with
        | int k n =>
          simp only [Option.some.injEq] at hr
          subst hr
          have hc : n ≤ (cap : Int) := by omega
          simp [Instr.sliceBounds, run_sliceBound, h1, hc]
        | _ => simp at hr
    | some u =>
      cases u with
      | int k0 m =>
        simp only [Option.some.injEq] at hl
        subst hl
        cases hi with
        | none =>
          simp only [Option.some.injEq] at hr; subst hr
          simp [Instr.sliceBounds, run_sliceBound, h0, h1]
        | some v =>
          cases v with
          | int k n =>
            simp only [Option.some.injEq] at hr
            subst hr
            have h0n : 0 ≤ n := Int.le_trans h0 h1
            have hc : n ≤ (cap : Int) := by omega
            have e0 : ((n.toNat : Nat) : Int) = n := Int.toNat_of_nonneg h0n
            simp [Instr.sliceBounds, run_sliceBound, h0, h0n, hc, e0, h1]
          | _ => simp at hr
      | _ => simp at hl
  simp [Instr.sliceAt, Instr.slice, run_und ht, hb, run_sizeOf hi', hs]

theorem addN (b o k : Nat) : (⟨b, o, none⟩ : Addr).add k = ⟨b, o + k, none⟩ := by unfold Addr.add; by_cases h : k = 0 <;> simp [h]

include hP H

theorem op_slice {t : TypeId} {x : Operand} {lo hi mx : Option Operand} (h : evalOp cx look O ver ⟨dst, .slice t x lo hi mx, ty, pos, aft, gd⟩ = some out) :
    Does P ⟨dst, .slice t x lo hi mx, ty, pos, aft, gd⟩ a w (Post n0 M F β U O w ver out) := by
  subst hP
  simp only [evalOp] at h
  cases mx with
  | some _ => simp at h
  | none =>
    simp only at h
    split at h
    · rename_i e htk
      obtain ⟨hs1, h1⟩ := ite_some.1 h
      obtain ⟨v, hv, h2⟩ := bnd_eq_some.1 h1
      obtain ⟨n, hn, h3⟩ := bnd_eq_some.1 h2
      obtain ⟨l, hl, h4⟩ := bnd_eq_some.1 h3
      obtain ⟨r, hr, h5⟩ := bnd_eq_some.1 h4
      obtain ⟨⟨g0, g1, g2⟩, h6⟩ := ite_some.1 h5
      clear h h1 h2 h3 h4 h5
      have rv := opnd_rep H hv
      have hl' : (match lo.map a.eval with | none => some (0 : Int) | some v => (match v with | .int _ n => some n | _ => none)) = some l := by
        cases lo with
        | none => exact hl
        | some y =>
          obtain ⟨yv, hy, hl⟩ := bnd_eq_some.1 hl
          obtain ⟨k, hk⟩ := asInt_rep (opnd_rep H hy) hl
          simp [hk]
      have hr' : (match hi.map a.eval with | none => some (n : Int) | some v => (match v with | .int _ n => some n | _ => none)) = some r := by
        cases hi with
        | none => exact hr
        | some y =>
          obtain ⟨yv, hy, hr⟩ := bnd_eq_some.1 hr
          obtain ⟨k, hk⟩ := asInt_rep (opnd_rep H hy) hr
          simp [hk]
      have hund := tk_slice htk
      have hlen := lenA_rep H.I rv hn
      have eL : (l.toNat : Int) = l := Int.toNat_of_nonneg g0
      have eR : (r.toNat : Int) = r := Int.toNat_of_nonneg (by omega)
      have run : ∀ {A : Option Addr} {cap : Nat}, a.eval x = .slice A n cap → n ≤ cap →
          (execOp a.eval ⟨dst, .slice t x lo hi none, ty, pos, aft, gd⟩).run cx.P w = .ok (.value (.slice (if cap = l.toNat then A else A.map (·.add l.toNat)) (r.toNat - l.toNat) (cap - l.toNat))) w := by
        intro A cap he hle
        have := run_slice (P := cx.P) (w := w) hund hs1 (A := A) (len := n) (cap := cap) hl' hr' g0 g1 g2 hle
        simp [execOp, he, this]
      generalize he : a.eval x = xv at rv hlen
      rcases hlen with ⟨A, cap, rfl, hle⟩ | ⟨s, rfl, _, hvs⟩
      · have hrun := run he hle
        split at h6
        · -- nil
          have h := Option.some.inj h6
          subst h
          cases rv with
          | d _ _ hd =>
            cases hd
            have : l.toNat = 0 := by omega
            have : r.toNat = 0 := by omega
            exact .inl ⟨_, w, hrun, Post.pure H.I (by simp [*]; exact .d _ _ .nil)⟩
        · rename_i s cells
          have h := Option.some.inj h6
          subst h
          cases rv with
          | d _ _ hd =>
            cases hd with
            | sl _ _ _ _ _ vs hl hc hvs hm hr =>
              simp only [lenA] at hn
              obtain ⟨hs, hn⟩ := ite_some.1 hn
              simp only [Option.some.injEq] at hn
              refine .inl ⟨_, w, hrun, Post.pure H.I (.d _ _ (.sl 1 _ _ _ _ ((vs.drop l.toNat).take (r.toNat - l.toNat)) (by simp; omega) (by omega) (by simp; omega) ?_ ?_))⟩
              · intro j u hu
                have hj : j < r.toNat - l.toNat := by have := (List.getElem?_eq_some_iff.1 hu).1; simp at this; omega
                rw [List.getElem?_take, if_pos hj, List.getElem?_drop] at hu
                obtain ⟨b, o, hA, hF, hcell⟩ := hm _ u hu
                subst hA
                have : cap ≠ l.toNat := by omega
                exact ⟨b, o + l.toNat, by simp [this, addN], hF, by rw [Nat.add_assoc]; exact hcell⟩
              · intro j z u hz hu
                have hj : j < r.toNat - l.toNat := by have := (List.getElem?_eq_some_iff.1 hu).1; simp at this; omega
                rw [List.getElem?_take, if_pos hj, List.getElem?_drop] at hu hz
                exact hr _ z u hz hu
        · rename_i cells
          have h := Option.some.inj h6
          subst h
          cases rv with
          | d _ _ hd =>
            cases hd with
            | pin _ _ _ _ vs hl hc hvs hm hr =>
              simp only [lenA, Option.some.injEq] at hn
              refine .inl ⟨_, w, hrun, Post.pure H.I (.d _ _ (.pin _ _ _ _ ((vs.drop l.toNat).take (r.toNat - l.toNat)) (by simp; omega) (by omega) (by simp; omega) ?_ ?_))⟩
              · intro j u hu
                have hj : j < r.toNat - l.toNat := by have := (List.getElem?_eq_some_iff.1 hu).1; simp at this; omega
                rw [List.getElem?_take, if_pos hj, List.getElem?_drop] at hu
                obtain ⟨b, o, hA, hF, hcell⟩ := hm _ u hu
                subst hA
                have : cap ≠ l.toNat := by omega
                exact ⟨b, o + l.toNat, by simp [this, addN], hF, by rw [Nat.add_assoc]; exact hcell⟩
              · intro j z u hz hu
                have hj : j < r.toNat - l.toNat := by have := (List.getElem?_eq_some_iff.1 hu).1; simp at this; omega
                rw [List.getElem?_take, if_pos hj, List.getElem?_drop] at hu hz
                exact hr _ z u hz hu
        · rename_i id rr
          split at h6
          · rename_i cells hat
            by_cases hcut : (dst.any fun t => decide (t ∈ cx.ann.own)) = true
            · rw [if_pos hcut] at h6
              obtain ⟨hl0, h7⟩ := ite_some.1 h6
              have h := Option.some.inj h7
              subst h
              cases rv with
              | own _ _ _ ho hu hvv =>
                obtain ⟨L, hL, f, ll, hB⟩ := H.I.objs id rr _ (at_iff.1 hat)
                have hval := hvv L hL
                simp only [Value.slice.injEq] at hval
                obtain ⟨rfl, e1, e2⟩ := hval
                have hrl : r.toNat ≤ cells.length := by omega
                let L' : Loc := { L with len := r.toNat }
                have E := Ext.put (F := F) (h := w.heap) (h' := w.heap) (β := β) (U := U) (ver := ver) (id := id) (L := L') (rem := []) H.ver (fun _ _ => rfl)
                refine .inl ⟨_, w, hrun, F, _, _, H.I.upd id ver L' _ [] (fun j => updO_put (rem := []) j) (fun _ => rfl) E (.inr rfl) ?_ ?_ ?_ (Nat.le_refl _), ?_, E, fun v h => h, Stp.refl _ _ _⟩
                · obtain ⟨c, e, hh, hs, hlc, hx⟩ := hB
                  refine ⟨f, by simp [L']; omega, c, e, hh, hs, by show _ ≤ L.cap; simp; omega, fun j d hd => ?_⟩
                  rw [List.getElem?_take] at hd
                  split at hd
                  · exact hx j d hd
                  · simp at hd
                · exact fun b hb => .inr ⟨id, rr, L, .inl rfl, hL, hb⟩
                · exact fun j v' L'' hj _ _ b hb => rfl
                · refine .own _ _ _ rfl (.inr rfl) fun L'' hL'' => ?_
                  simp only [if_true, Option.some.injEq, Prod.mk.injEq, true_and] at hL''
                  subst hL''
                  subst hl0
                  simp [L', e2, addN]
            rw [if_neg hcut] at h6
            have h := Option.some.inj h6
            subst h
            cases rv with
            | own _ _ _ ho hu hvv =>
              obtain ⟨L, hL, f, ll, _⟩ := H.I.objs id rr _ (at_iff.1 hat)
              have hval := hvv L hL
              simp only [Value.slice.injEq] at hval
              refine .inl ⟨_, w, hrun, Post.pure H.I (.sub _ _ _ _ _ rfl hu fun L' hL' => ?_)⟩
              rw [hL] at hL'
              simp only [Option.some.injEq, Prod.mk.injEq, true_and] at hL'
              subst hL'
              obtain ⟨rfl, e1, e2⟩ := hval
              refine ⟨by omega, if cap = l.toNat then L.base else L.base + l.toNat, ?_, fun hlt => by rw [if_neg (by omega)], by split <;> omega⟩
              subst e2
              by_cases hc : L.cap = l.toNat <;> simp [hc, addN]
          · rename_i w' rows cells hat
            have h := Option.some.inj h6
            subst h
            cases rv with
            | own _ _ _ ho hu hvv =>
              obtain ⟨L, hL, _⟩ := H.I.objs id rr _ (at_iff.1 hat)
              have hval := hvv L hL
              simp only [Value.slice.injEq] at hval
              refine .inl ⟨_, w, hrun, Post.pure H.I (.sub _ _ _ _ _ rfl hu fun L' hL' => ?_)⟩
              rw [hL] at hL'
              simp only [Option.some.injEq, Prod.mk.injEq, true_and] at hL'
              subst hL'
              obtain ⟨rfl, e1, e2⟩ := hval
              refine ⟨by omega, if cap = l.toNat then L.base else L.base + l.toNat, ?_, fun hlt => by rw [if_neg (by omega)], by split <;> omega⟩
              subst e2
              by_cases hc : L.cap = l.toNat <;> simp [hc, addN]
          · rename_i op rows hat
            obtain ⟨_, h7⟩ := ite_some.1 h6
            have h := Option.some.inj h7
            subst h
            cases rv with
            | own _ _ _ ho hu hvv =>
              obtain ⟨L, hL, _⟩ := H.I.objs id rr _ (at_iff.1 hat)
              have hval := hvv L hL
              simp only [Value.slice.injEq] at hval
              refine .inl ⟨_, w, hrun, Post.pure H.I (.sub _ _ _ _ _ rfl hu fun L' hL' => ?_)⟩
              rw [hL] at hL'
              simp only [Option.some.injEq, Prod.mk.injEq, true_and] at hL'
              subst hL'
              obtain ⟨rfl, e1, e2⟩ := hval
              refine ⟨by omega, if cap = l.toNat then L.base else L.base + l.toNat, ?_, fun hlt => by rw [if_neg (by omega)], by split <;> omega⟩
              subst e2
              by_cases hc : L.cap = l.toNat <;> simp [hc, addN]
          · simp at h6
        · rename_i id rr off len
          obtain ⟨ob, hat, h6⟩ := bnd_eq_some.1 h6
          have h := Option.some.inj h6
          subst h
          cases rv with
          | sub _ _ _ _ _ ho hu hvv =>
            obtain ⟨L, hL, _⟩ := H.I.objs id rr _ (at_iff.1 hat)
            obtain ⟨k1, o, hval, k2, k3⟩ := hvv L hL
            simp only [Value.slice.injEq] at hval
            obtain ⟨rfl, e1, e2⟩ := hval
            refine .inl ⟨_, w, hrun, Post.pure H.I (.sub _ _ _ _ _ rfl hu fun L' hL' => ?_)⟩
            rw [hL] at hL'
            simp only [Option.some.injEq, Prod.mk.injEq, true_and] at hL'
            subst hL'
            refine ⟨by omega, if cap = l.toNat then o else o + l.toNat, ?_, fun hlt => by rw [if_neg (by omega), k2 (by omega), Nat.add_assoc], by split <;> omega⟩
            subst e2
            by_cases hc : L.cap - off = l.toNat
            · simp [hc]; omega
            · simp [hc, addN]; omega
        · simp at h6
      · subst hvs
        simp at h6
    · simp at h
end
end Go.Proofs.YtnfhglplafmfiaaGreatE

namespace Go.Proofs.YtnfhglplafmfiaaGreatE
set_option linter.unusedSectionVars false
set_option linter.unusedSimpArgs false
set_option linter.unusedVariables false
open Go
set_option linter.unusedSectionVars false

theorem putA_append (xs ys : List Value) : ∀ (c : Array Value) (off : Nat), putA (putA c off xs) (off + xs.length) ys = putA c off (xs ++ ys) := by
  induction xs with
  | nil => intro c off; rfl
  | cons x xs ih =>
    intro c off
    have := ih (c.setIfInBounds off x) (off + 1)
    simp only [List.length_cons, putA, List.cons_append]
    rw [show off + (xs.length + 1) = off + 1 + xs.length by omega]; exact this

theorem putA_before (vs : List Value) : ∀ (c : Array Value) (off k : Nat), k < off → (putA c off vs)[k]? = c[k]? := by
  induction vs with
  | nil => intro c off k _; rfl
  | cons v vs ih =>
    intro c off k hk
    simp only [putA]
    rw [ih _ _ _ (by omega), Array.getElem?_setIfInBounds_ne (by omega)]

theorem putA_at (vs : List Value) : ∀ (c : Array Value) (off k : Nat), k < vs.length → off + vs.length ≤ c.size → (putA c off vs)[off + k]? = vs[k]? := by
  induction vs with
  | nil => intro c off k hk; simp at hk
  | cons v vs ih =>
    intro c off k hk hs
    simp only [putA, List.length_cons] at *
    cases k with
    | zero =>
      simp only [Nat.add_zero, List.getElem?_cons_zero]
      rw [putA_before _ _ _ _ (by omega), Array.getElem?_setIfInBounds]; simp; omega
    | succ k =>
      rw [show off + (k + 1) = off + 1 + k by omega, ih _ _ _ (by omega) (by simp; omega)]; simp

theorem putA_all (vs : List Value) (c : Array Value) (h : c.size = vs.length) : putA c 0 vs = vs.toArray := by
  apply Array.ext_getElem?
  intro i
  by_cases hi : i < vs.length
  · have := putA_at vs c 0 i hi (by omega)
    simpa using this
  · rw [Array.getElem?_eq_none (by rw [size_putA]; omega), Array.getElem?_eq_none (by simp; omega)]

theorem foldl_putA (off : Nat) (l : List Value) : ∀ (k : Nat) (c : Array Value), (l.zipIdx k).foldl (fun cs (p : Value × Nat) => cs.setIfInBounds (off + p.2) p.1) c = putA c (off + k) l := by
  induction l with
  | nil => intro k c; rfl
  | cons v l ih =>
    intro k c
    simp only [List.zipIdx_cons, List.foldl_cons, putA]
    exact ih (k + 1) _

theorem fill_cons (place : Nat → Option (Nat × Nat)) (c : Array Value) (i : Nat) (v : Value) (rest : List (Nat × Value)) {off size : Nat} (hp : place i = some (off, size)) (h1 : v.cells.size = size) (h2 : off + size ≤ c.size) :
    Instr.fill place c ((i, v) :: rest) = Instr.fill place (putA c off v.cells.toList) rest := by
  have e : v.cells.zipIdx.foldl (fun cs (p : Value × Nat) => cs.setIfInBounds (off + p.2) p.1) c = putA c off v.cells.toList := by
    rw [← Array.foldl_toList, Array.toList_zipIdx]
    exact foldl_putA off v.cells.toList 0 c
  simp only [Instr.fill, hp, h1]
  rw [if_neg (by simp; omega)]
  exact congrArg (fun z => Instr.fill place z rest) e

section
variable {P : Program} {n0 : Nat} {M : Nat → Prop} {F : Frz} {β : Beta} {U : Nat → Prop} {O : Nat → Option (Nat × Ob)} {look : Nat → Option AV} {a : Act} {w : World} {ver : Nat} {h : Heap}
variable {cx : Cx} (hP : cx.P = P) (H : Hyp n0 M F β U O look a w ver) {out : Out} {dst : Option Tmp} {ty : TypeId} {pos : String} {aft : Array Edge} {gd : Option (Nat × Bool)}

/-- Parts, pair by pair. -/
def PRel (F : Frz) (h : Heap) (β : Beta) (U : Nat → Prop) : List (Nat × AV) → List (Nat × Value) → Prop
  | [], [] => True
  | (i, x) :: xs, (j, v) :: vs => i = j ∧ VRep F h β U x v ∧ PRel F h β U xs vs
  | _, _ => False

theorem fillA_rep {places : List (Nat × Nat)} : ∀ (ps : List (Nat × AV)) (vs : List (Nat × Value)) (cells cs : List AV) (c : Array Value), PRel F h β U ps vs → fillA places cells ps = some cs →
    CRel F h β U cells c 0 → cells.length = c.size → ∃ c', Instr.fill (places.toArray[·]?) c vs = some c' ∧ CRel F h β U cs c' 0 ∧ cs.length = c'.size
  | [], [], cells, cs, c, _, hf, hr, hl => by
    simp only [fillA, Option.some.injEq] at hf; subst hf
    exact ⟨c, rfl, hr, hl⟩
  | (i, x) :: ps, (j, v) :: vs, cells, cs, c, hp, hf, hr, hl => by
    obtain ⟨rfl, hx, hp⟩ := hp
    simp only [fillA] at hf
    split at hf
    · rename_i off size hpl
      obtain ⟨⟨hok, hsz, hle⟩, hf⟩ := ite_some.1 hf
      obtain ⟨k1, k2⟩ := cells_rep hx hok
      have hfc := fill_cons (places.toArray[·]?) c i v vs (by simpa using hpl) (by omega) (by omega)
      have hr' := CRel.put (cellsOf x) v.cells.toList cells c off hr (by simpa using k1) (fun k y u hy hu => (k2 k y u hy (by simpa using hu)).1)
      obtain ⟨c', h1, h2, h3⟩ := fillA_rep ps vs _ cs _ hp hf (by simpa using hr') (by simp [length_setFrom, size_putA, hl])
      exact ⟨c', by rw [hfc]; exact h1, h2, h3⟩
    · simp at hf
  | [], _ :: _, _, _, _, hp, _, _, _ => hp.elim
  | _ :: _, [], _, _, _, hp, _, _, _ => hp.elim

theorem CRel.agg {cs : List AV} {c : Array Value} (hr : CRel F h β U cs c 0) (hl : cs.length = c.size) : VRep F h β U (.agg cs) (.agg c) := by
  refine .agg _ _ hl fun i x v hx hv => ?_
  obtain ⟨u, hu, r⟩ := hr.2 i x hx
  rw [Nat.zero_add, hv] at hu
  simp only [Option.some.injEq] at hu
  subst hu; exact r

theorem cells_CRel {x : AV} {v : Value} (r : VRep F h β U x v) (hs : cellsOk x = true) : CRel F h β U (cellsOf x) v.cells 0 := by
  obtain ⟨k1, k2⟩ := cells_rep r hs
  refine ⟨by omega, fun i y hy => ?_⟩
  have hi : i < v.cells.size := by rw [← k1]; exact (List.getElem?_eq_some_iff.1 hy).1
  exact ⟨v.cells[i], by simp [hi], (k2 i y _ hy (by simp [hi])).1⟩

theorem places_of {fs : List Field} (hall : (fs.map fun f => (f.offset, f.type)).all (fun f => decide (0 < sz P f.2)) = true) :
    fs.mapM (fun f => (P.info? f.type).map fun i => (f.offset, i.size)) = some ((fs.map fun f => (f.offset, f.type)).map fun f => (f.1, sz P f.2)) := by
  induction fs with
  | nil => rfl
  | cons f fs ih =>
    simp only [List.map_cons, List.all_cons, Bool.and_eq_true, decide_eq_true_eq] at hall
    obtain ⟨i, hi⟩ := info_sz (P := P) (t := f.type) (by omega)
    simp [List.mapM_cons, hi, ih hall.2, sz]

include H in
theorem PRel_of {l : List (Nat × Operand)} : ∀ {ps : List (Nat × AV)}, mapO (fun (p : Nat × Operand) => bnd (opnd look p.2) fun v => some (p.1, v)) l = some ps →
    PRel F w.heap β U ps (l.map fun p => (p.1, a.eval p.2)) := by
  induction l with
  | nil => intro ps h; simp only [mapO, Option.some.injEq] at h; subst h; trivial
  | cons p l ih =>
    intro ps h
    simp only [mapO] at h
    obtain ⟨y, hy, h1⟩ := bnd_eq_some.1 h
    obtain ⟨ys, hys, h2⟩ := bnd_eq_some.1 h1
    have h2 := Option.some.inj h2
    subst h2
    obtain ⟨v, hv, hy⟩ := bnd_eq_some.1 hy
    have hy := Option.some.inj hy
    subst hy
    exact ⟨rfl, opnd_rep H hv, ih hys⟩

include hP H

theorem op_build {t : TypeId} {parts : Array (Nat × Operand)} (h : evalOp cx look O ver ⟨dst, .build t parts, ty, pos, aft, gd⟩ = some out) :
    Does P ⟨dst, .build t parts, ty, pos, aft, gd⟩ a w (Post n0 M F β U O w ver out) := by
  subst hP
  simp only [evalOp] at h
  split at h
  · rename_i fs htk
    obtain ⟨hall, h1⟩ := ite_some.1 h
    obtain ⟨z, hz, h2⟩ := bnd_eq_some.1 h1
    obtain ⟨hok, h3⟩ := ite_some.1 h2
    obtain ⟨ps, hps, h4⟩ := bnd_eq_some.1 h3
    obtain ⟨cs, hcs, h5⟩ := bnd_eq_some.1 h4
    have h5 := Option.some.inj h5
    subst h5
    obtain ⟨fs', hund, rfl⟩ := tk_struct htk
    obtain ⟨i, zv, hi, hzv, hx⟩ := zer_spec hz
    obtain ⟨c', hc', hr, hl⟩ := fillA_rep ps _ (cellsOf z) cs zv.cells (PRel_of H hps) hcs (cells_CRel (ofValue_rep hx) hok) (cells_rep (F := F) (h := w.heap) (β := β) (U := U) (ofValue_rep hx) hok).1
    refine .inl ⟨.agg c', w, ?_, Post.pure H.I (hr.agg hl)⟩
    have hb : cx.P.built t (parts.map fun (p : Nat × Operand) => (p.1, a.eval p.2)).toList = some c' := by
      simp only [Program.built, hi, hund, hzv, places_of hall]
      simpa using hc'
    have := run_build w t (parts.map fun (p : Nat × Operand) => (p.1, a.eval p.2)) c' hb
    simp only [execOp]
    rw [Sem.run_bind]
    rw [this]; rfl
  · simp at h

theorem op_makeSlice {t : TypeId} {x y : Operand} (h : evalOp cx look O ver ⟨dst, .makeSlice t x y, ty, pos, aft, gd⟩ = some out) :
    Does P ⟨dst, .makeSlice t x y, ty, pos, aft, gd⟩ a w (Post n0 M F β U O w ver out) := by
  subst hP
  simp only [evalOp] at h
  split at h
  · rename_i e htk
    obtain ⟨l, hl, h1⟩ := bnd_eq_some.1 h
    obtain ⟨c, hc, h2⟩ := bnd_eq_some.1 h1
    obtain ⟨⟨g0, g1, g2, g3, g4⟩, h3⟩ := ite_some.1 h2
    clear h h1 h2
    obtain ⟨lv, hlv, hl⟩ := bnd_eq_some.1 hl
    obtain ⟨cv, hcv, hc⟩ := bnd_eq_some.1 hc
    obtain ⟨k1, e1⟩ := asInt_rep (opnd_rep H hlv) hl
    obtain ⟨k2, e2⟩ := asInt_rep (opnd_rep H hcv) hc
    obtain ⟨inf, hinf⟩ := info_sz (P := cx.P) (t := e) (by omega)
    have hby : byts cx.P e = inf.bytes := by simp [byts, hinf]
    have wl : IntKind.i64.wrap l = l := IntWalk.i64_in _ (by omega)
    have wc : IntKind.i64.wrap c = c := IntWalk.i64_in _ (by omega)
    have hbc : (inf.bytes : Int) * c ≤ 281474976710656 := by
      have h64 : (inf.bytes : Int) ≤ 64 := by omega
      calc (inf.bytes : Int) * c ≤ 64 * c := Int.mul_le_mul_of_nonneg_right h64 (by omega)
        _ ≤ 281474976710656 := by omega
    have main : ∀ (zv : Value), inf.zero = some zv → zv.cells = #[zv] →
        (execOp a.eval ⟨dst, .makeSlice t x y, ty, pos, aft, gd⟩).run cx.P w = .ok (.value (.slice (some ⟨w.heap.size, 0, none⟩) l.toNat c.toNat)) { w with heap := w.heap.push (.cells (List.replicate c.toNat zv).toArray e) } := by
      intro zv hz hcz
      have harr : ∀ (z : Array Value), z = #[zv] ∨ c.toNat = 0 → ((Array.range c.toNat).map fun i => z[i % z.size]!) = (List.replicate c.toNat zv).toArray := by
        intro z hz
        apply Array.ext
        · simp
        · intro i h1 h2
          simp at h1 h2
          rcases hz with rfl | h0
          · simp [Nat.mod_one]
          · omega
      have n1 : ¬ (c < 0) := by omega
      have n2 : ¬ ((281474976710656 : Int) < inf.bytes * c) := by omega
      have n3 : ¬ (l < 0) := by omega
      have n4 : ¬ (c < l) := by omega
      have sz1 : inf.size = 1 := by simpa [sz, hinf] using g4
      by_cases h0 : c.toNat = 0
      · have := harr #[] (.inr h0)
        simp [execOp, Instr.makeSlice, e1, e2, Go.asInt, asIntOf, run_und (tk_slice htk), typeInfo, sizeOf, hinf, wl, wc, n1, n2, n3, n4, sz1, h0, newRow, List.replicate]
        congr 2
        exact Array.eq_empty_of_size_eq_zero (by simp)
      · have := harr #[zv] (.inl rfl)
        simp [execOp, Instr.makeSlice, e1, e2, Go.asInt, asIntOf, run_und (tk_slice htk), typeInfo, sizeOf, hinf, wl, wc, n1, n2, n3, n4, sz1, h0, newRow, zeroValue, hz, hcz] at this ⊢
        rw [this]
    split at h3
    · rename_i e' htk2
      obtain ⟨d, hd, h4⟩ := bnd_eq_some.1 h3
      split at h4
      · rename_i hz
        obtain ⟨i, zv, hi, hzv, hx⟩ := zer_spec hz
        rw [hinf] at hi
        have hi := Option.some.inj hi
        subst hi
        have hzn : zv = .slice none 0 0 := by
          have := ofValue_rep (F := F) (h := w.heap) (β := β) (U := U) hx
          cases this with | d _ _ hd => cases hd; rfl
        subst hzn
        by_cases hown : d ∈ cx.ann.own
        · rw [if_pos hown] at h4
          have h4 := Option.some.inj h4
          subst h4
          refine .inl ⟨_, _, main _ hzv rfl, Post.new H.I H.ver _ e _ ⟨w.heap.size, 0, l.toNat, c.toNat, [], [w.heap.size]⟩ _ rfl ?_ ?_⟩
          · intro β' U' E
            refine ⟨rfl, by simp, (List.replicate c.toNat (Value.slice none 0 0)).toArray, e, by simp, by simp, by simp; omega, fun j x hx => ?_⟩
            simp only [List.getElem?_replicate] at hx
            split at hx
            · rename_i hlt
              have hlc : j < c.toNat := by clear wl wc; omega
              simp only [Option.some.injEq] at hx; subst hx
              exact ⟨rfl, _, by simp [hlc], .nil⟩
            · simp at hx
          · intro β' U' hu hβ
            refine .own _ _ _ rfl hu fun L hL => ?_
            rw [hβ] at hL
            simp only [Option.some.injEq, Prod.mk.injEq, true_and] at hL
            subst hL; rfl
        rw [if_neg hown] at h4
        have h4 := Option.some.inj h4
        subst h4
        refine .inl ⟨_, _, main _ hzv rfl, Post.new H.I H.ver _ e _ ⟨w.heap.size, 0, l.toNat, c.toNat, [], [w.heap.size]⟩ _ rfl ?_ ?_⟩
        · intro β' U' E
          refine ⟨by simp, by simp; omega, (List.replicate c.toNat (Value.slice none 0 0)).toArray, e, List.replicate l.toNat (.slice none 0 0), by simp, by simp, by simp, ?_, ?_, rfl, ?_, by simp⟩
          · intro i x hx
            simp only [List.getElem?_replicate] at hx
            split at hx
            · rename_i hlt
              have hlc : i < c.toNat := by clear wl wc; omega
              simp only [Option.some.injEq] at hx; subst hx
              simp [hlc]
            · simp at hx
          · intro i r x hr hx
            simp only [List.getElem?_replicate] at hr hx
            split at hx
            · simp only [Option.some.injEq] at hx; subst hx
              rename_i hlt
              rw [if_pos hlt] at hr
              simp only [Option.some.injEq] at hr; subst hr
              exact .inl ⟨rfl, rfl⟩
            · simp at hx
          · simp [blockOf]
        · intro β' U' hu hβ
          refine .own _ _ _ rfl hu fun L hL => ?_
          rw [hβ] at hL
          simp only [Option.some.injEq, Prod.mk.injEq, true_and] at hL
          subst hL; rfl
      · simp at h4
    · obtain ⟨z, hz, h4⟩ := bnd_eq_some.1 h3
      obtain ⟨zz, hzz, hz⟩ := bnd_eq_some.1 hz
      obtain ⟨d, hd, h5⟩ := bnd_eq_some.1 h4
      obtain ⟨hpl, h6⟩ := ite_some.1 h5
      have h6 := Option.some.inj h6
      subst h6
      obtain ⟨i, zv, hi, hzv, hx⟩ := zer_spec hzz
      rw [hinf] at hi
      have hi := Option.some.inj hi
      subst hi
      have hzn : zv = pv z := plain_pv (asD_rep (ofValue_rep (F := F) (h := w.heap) (β := β) (U := U) hx) hz) hpl
      have hone : (pv z).cells = #[pv z] := by cases z <;> first | rfl | simp [plainD] at hpl
      subst hzn
      refine .inl ⟨_, _, main _ hzv hone, Post.new H.I H.ver _ e _ ⟨w.heap.size, 0, l.toNat, c.toNat, [], [w.heap.size]⟩ _ rfl ?_ ?_⟩
      · intro β' U' E
        refine ⟨rfl, by simp, (List.replicate c.toNat (pv z)).toArray, e, by simp, by simp, by simp; omega, fun j x hx => ?_⟩
        simp only [List.getElem?_replicate] at hx
        split at hx
        · rename_i hlt
          have hlc : j < c.toNat := by clear wl wc; omega
          simp only [Option.some.injEq] at hx; subst hx
          exact ⟨plain_row hpl, pv z, by simp [hlc], pv_rep hpl⟩
        · simp at hx
      · intro β' U' hu hβ
        refine .own _ _ _ rfl hu fun L hL => ?_
        rw [hβ] at hL
        simp only [Option.some.injEq, Prod.mk.injEq, true_and] at hL
        subst hL; rfl
  · simp at h
end
end Go.Proofs.YtnfhglplafmfiaaGreatE

namespace Go.Proofs.YtnfhglplafmfiaaGreatE
set_option linter.unusedSectionVars false
set_option linter.unusedSimpArgs false
set_option linter.unusedVariables false
open Go
set_option linter.unusedSectionVars false

section
variable {P : Program} {n0 : Nat} {M : Nat → Prop} {F : Frz} {β : Beta} {U : Nat → Prop} {O : Nat → Option (Nat × Ob)} {look : Nat → Option AV} {a : Act} {w : World} {ver : Nat} {h : Heap}
variable {cx : Cx} (hP : cx.P = P) (H : Hyp n0 M F β U O look a w ver) {out : Out} {dst : Option Tmp} {ty : TypeId} {pos : String} {aft : Array Edge} {gd : Option (Nat × Bool)}

def LRel (F : Frz) (h : Heap) (β : Beta) (U : Nat → Prop) (xs : List AV) (us : List Value) : Prop :=
  xs.length = us.length ∧ ∀ (i : Nat) (x : AV) (u : Value), xs[i]? = some x → us[i]? = some u → VRep F h β U x u

theorem LRel.append {xs ys : List AV} {us vs : List Value} (h1 : LRel F h β U xs us) (h2 : LRel F h β U ys vs) : LRel F h β U (xs ++ ys) (us ++ vs) := by
  refine ⟨by simp [h1.1, h2.1], fun i x u hx hu => ?_⟩
  rw [List.getElem?_append] at hx hu
  rw [h1.1] at hx
  by_cases hi : i < us.length
  · simp only [hi, if_true] at hx hu; exact h1.2 i x u hx hu
  · simp only [hi, if_false] at hx hu; exact h2.2 _ x u hx hu

theorem LRel.flat {size : Nat} : ∀ {xs : List AV} {us : List Value}, LRel F h β U xs us → (xs.all (fun v => cellsOk v && (cellsOf v).length == size)) = true →
    LRel F h β U (xs.flatMap cellsOf) (us.flatMap fun u => u.cells.toList) ∧ (∀ u ∈ us, u.cells.size = size) ∧ (us.flatMap fun u => u.cells.toList).length = us.length * size
  | [], [], _, _ => ⟨⟨rfl, fun i x u hx _ => by simp at hx⟩, fun u hu => by simp at hu, by simp⟩
  | x :: xs, u :: us, hr, hall => by
    simp only [List.all_cons, Bool.and_eq_true, beq_iff_eq] at hall
    have hxu := hr.2 0 x u rfl rfl
    obtain ⟨k1, k2⟩ := cells_rep hxu hall.1.1
    have hrest : LRel F h β U xs us := ⟨by simpa using hr.1, fun i y v hy hv => hr.2 (i + 1) y v hy hv⟩
    obtain ⟨i1, i2, i3⟩ := LRel.flat hrest hall.2
    refine ⟨?_, ?_, ?_⟩
    · simp only [List.flatMap_cons]
      exact LRel.append ⟨by simpa using k1, fun i y v hy hv => (k2 i y v hy (by simpa using hv)).1⟩ i1
    · intro v hv
      rcases List.mem_cons.1 hv with rfl | hv
      · omega
      · exact i2 v hv
    · simp only [List.flatMap_cons, List.length_append, i3, List.length_cons, Array.length_toList, Nat.add_mul]
      omega
  | [], _ :: _, hr, _ => by simp [LRel] at hr
  | _ :: _, [], hr, _ => by simp [LRel] at hr

theorem fill_slice (size : Nat) : ∀ (vs : List Value) (i0 : Nat) (c : Array Value), (∀ v ∈ vs, v.cells.size = size) → (i0 + vs.length) * size ≤ c.size →
    Instr.fill (fun i => some (i * size, size)) c ((List.range' i0 vs.length).zip vs) = some (putA c (i0 * size) (vs.flatMap fun v => v.cells.toList))
  | [], i0, c, _, _ => by simp [Instr.fill, putA]
  | v :: vs, i0, c, hv, hc => by
    simp only [List.length_cons, List.range'_succ, List.zip_cons_cons, List.flatMap_cons]
    have h1 : v.cells.size = size := hv v (by simp)
    have h2 : (i0 + 1) * size ≤ c.size := by
      refine Nat.le_trans (Nat.mul_le_mul_right _ ?_) hc
      simp only [List.length_cons]; omega
    rw [fill_cons _ c i0 v _ rfl h1 (by rw [Nat.add_mul] at h2; omega)]
    rw [fill_slice size vs (i0 + 1) _ (fun u hu => hv u (by simp [hu])) (by rw [size_putA]; simp only [List.length_cons] at hc; rw [show i0 + 1 + vs.length = i0 + (vs.length + 1) by omega]; exact hc)]
    rw [← putA_append]
    congr 2
    simp [h1, Nat.add_mul]

theorem map_pair (l : List (Nat × Operand)) (f : Operand → Value) : l.map (fun p => (p.1, f p.2)) = (l.map (·.1)).zip (l.map fun p => f p.2) := by
  induction l with
  | nil => rfl
  | cons p l ih => simp [ih]

include hP H

theorem op_buildSlice {t : TypeId} {len : Nat} {parts : Array (Nat × Operand)} (h : evalOp cx look O ver ⟨dst, .buildSlice t len parts, ty, pos, aft, gd⟩ = some out) :
    Does P ⟨dst, .buildSlice t len parts, ty, pos, aft, gd⟩ a w (Post n0 M F β U O w ver out) := by
  subst hP
  simp only [evalOp] at h
  split at h
  · rename_i e htk
    obtain ⟨vs, hvs, h1⟩ := bnd_eq_some.1 h
    obtain ⟨⟨hidx, hlen, hpos, hsz, hzer, hall⟩, h2⟩ := ite_some.1 h1
    clear h h1
    have R : LRel F w.heap β U vs (parts.toList.map fun p => a.eval p.2) := by
      obtain ⟨k1, k2⟩ := mapO_spec hvs
      refine ⟨by simpa using k1.symm, fun i x u hx hu => ?_⟩
      simp only [List.getElem?_map, Option.map_eq_some_iff] at hu
      obtain ⟨p, hp, rfl⟩ := hu
      exact opnd_rep H (k2 i p x hp hx)
    obtain ⟨R2, hcs, hfl⟩ := R.flat hall
    have hpl : parts.toList.length = len := by have := congrArg List.length hidx; simpa using this
    generalize hus : (parts.toList.map fun p => a.eval p.2) = us at R R2 hcs hfl
    have hul : us.length = len := by rw [← hus]; simpa using hpl
    obtain ⟨inf, hinf⟩ := info_sz (P := cx.P) (t := e) (by omega)
    have hsi : inf.size = sz cx.P e := by simp [sz, hinf]
    obtain ⟨zx, hzx⟩ := Option.isSome_iff_exists.1 hzer
    obtain ⟨inf', zv, hi', hzv, _⟩ := zer_spec hzx
    rw [hinf] at hi'
    have hi' := Option.some.inj hi'
    subst hi'
    have hlt : len * sz cx.P e ≤ 1000 * 1000 := Nat.mul_le_mul hlen hsz
    generalize hflat : (us.flatMap fun u => u.cells.toList) = flat at R2 hfl
    have main : (execOp a.eval ⟨dst, .buildSlice t len parts, ty, pos, aft, gd⟩).run cx.P w = .ok (.value (.slice (some ⟨w.heap.size, 0, none⟩) len len)) { w with heap := w.heap.push (.cells flat.toArray e) } := by
      have hparts : (parts.map fun (p : Nat × Operand) => (p.1, a.eval p.2)).toList = (List.range' 0 us.length).zip us := by
        rw [Array.toList_map, map_pair, hidx, hus, hul, List.range_eq_range']
      have hfill : ∀ (c0 : Array Value), c0.size = len * sz cx.P e → Instr.fill (fun i => some (i * sz cx.P e, sz cx.P e)) c0 (parts.map fun (p : Nat × Operand) => (p.1, a.eval p.2)).toList = some flat.toArray := by
        intro c0 hc0
        rw [hparts, fill_slice _ us 0 c0 hcs (by rw [hc0, hul]; simp)]
        rw [hflat, Nat.zero_mul, putA_all _ _ (by rw [hc0, hfl, hul])]
      have n1 : ¬ (2 ^ 24 < len * sz cx.P e) := by omega
      simp only [execOp]
      rw [Sem.run_bind]
      have hgoal : (Instr.buildSlice t len (parts.map fun (p : Nat × Operand) => (p.1, a.eval p.2))).run cx.P w = .ok (.slice (some ⟨w.heap.size, 0, none⟩) len len) { w with heap := w.heap.push (.cells flat.toArray e) } := by
        by_cases h0 : len * sz cx.P e = 0
        · have hf := hfill ((Array.range (len * sz cx.P e)).map fun i => (#[] : Array Value)[i % (#[] : Array Value).size]!) (by simp)
          simp only [Instr.buildSlice, Sem.run_bind, run_und (tk_slice htk), Result.andThen_ok, run_sizeOf hinf, gt_iff_lt]
          rw [if_neg n1, if_pos h0]
          simp only [Sem.run_bind, Sem.run_pure, Result.andThen_ok]
          rw [hf]
          simp [newRow]
        · have hf := hfill ((Array.range (len * sz cx.P e)).map fun i => zv.cells[i % zv.cells.size]!) (by simp)
          simp only [Instr.buildSlice, Sem.run_bind, run_und (tk_slice htk), Result.andThen_ok, run_sizeOf hinf, gt_iff_lt]
          rw [if_neg n1, if_neg h0]
          simp only [Sem.run_bind, Sem.run_pure, Result.andThen_ok, run_zero hinf hzv]
          rw [hf]
          simp [newRow]
      exact congrArg (fun z => Result.andThen z _) hgoal
    have hval : ∀ (id : Nat) (β' : Beta) (U' : Nat → Prop) (x : AV) (n : Nat), True := fun _ _ _ _ _ => trivial
    split at h2
    · rename_i e' htk2
      obtain ⟨d, hd, h3⟩ := bnd_eq_some.1 h2
      by_cases hown : d ∈ cx.ann.own
      · rw [if_pos hown] at h3
        obtain ⟨ds, hds, h4⟩ := bnd_eq_some.1 h3
        obtain ⟨⟨hs1, hplain⟩, h5⟩ := ite_some.1 h4
        have h5 := Option.some.inj h5
        subst h5
        obtain ⟨m1, m2⟩ := mapO_spec hds
        have hdl : ds.length = flat.length := by rw [← m1, R2.1]
        have hfn : flat.length = len := by rw [hfl, hul, hs1, Nat.mul_one]
        simp only [List.all_eq_true] at hplain
        refine .inl ⟨_, _, main, Post.new H.I H.ver _ e _ ⟨w.heap.size, 0, len, len, [], [w.heap.size]⟩ _ rfl ?_ ?_⟩
        · intro β' U' E
          refine ⟨rfl, by rw [hdl, hfn], flat.toArray, e, by simp, by simp [hfn], by simp [hdl, hfn], fun i x hx => ?_⟩
          have hi : i < flat.length := by rw [← hdl]; exact (List.getElem?_eq_some_iff.1 hx).1
          obtain ⟨y, hy, hf⟩ := mapO_get hds hx
          exact ⟨hplain x (List.mem_of_getElem? hx), flat[i], by simp [hi], (asD_rep (R2.2 i y _ hy (by simp [hi])) hf).ext E.eF E.eP E.eh⟩
        · intro β' U' hu hβ
          refine .own _ _ _ rfl hu fun L hL => ?_
          rw [hβ] at hL
          simp only [Option.some.injEq, Prod.mk.injEq, true_and] at hL
          subst hL; rfl
      rw [if_neg hown] at h3
      obtain ⟨hs1, h4⟩ := ite_some.1 h3
      split at h4
      · rename_i h0
        have h4 := Option.some.inj h4
        subst h4
        subst h0
        refine .inl ⟨_, _, main, Post.new H.I H.ver _ e _ ⟨w.heap.size, 0, 0, 0, [], [w.heap.size]⟩ _ rfl ?_ ?_⟩
        · intro β' U' E
          exact ⟨rfl, by simp, flat.toArray, e, [], by simp, by simp, rfl, fun i x hx => by simp at hx, fun i r x hr => by simp at hr, rfl, by simp, by simp⟩
        · intro β' U' hu hβ
          refine .own _ _ _ rfl hu fun L hL => ?_
          rw [hβ] at hL
          simp only [Option.some.injEq, Prod.mk.injEq, true_and] at hL
          subst hL; rfl
      · have h4 := Option.some.inj h4
        subst h4
        have hfn : flat.length = len := by rw [hfl, hul, hs1, Nat.mul_one]
        refine .inl ⟨_, _, main, Post.new H.I H.ver _ e _ ⟨w.heap.size, 0, len, len, [], [w.heap.size]⟩ _ rfl ?_ ?_⟩
        · intro β' U' E
          refine ⟨rfl, by rw [R2.1, hfn], Nat.le_refl _, flat.toArray, e, by simp, by simp [hfn], fun i x hx => ?_⟩
          have hi : i < flat.length := by rw [← R2.1]; exact (List.getElem?_eq_some_iff.1 hx).1
          exact ⟨flat[i], by simp [hi], (R2.2 i x _ hx (by simp [hi])).ext E⟩
        · intro β' U' hu hβ
          refine .own _ _ _ rfl hu fun L hL => ?_
          rw [hβ] at hL
          simp only [Option.some.injEq, Prod.mk.injEq, true_and] at hL
          subst hL; rfl
    · obtain ⟨ds, hds, h3⟩ := bnd_eq_some.1 h2
      obtain ⟨d, hd, h4⟩ := bnd_eq_some.1 h3
      obtain ⟨m1, m2⟩ := mapO_spec hds
      have hdl : ds.length = flat.length := by rw [← m1, R2.1]
      have hdr : ∀ (i : Nat) (x : D) (u : Value), ds[i]? = some x → flat[i]? = some u → DRep F w.heap x u := by
        intro i x u hx hu
        obtain ⟨y, hy, hf⟩ := mapO_get hds hx
        exact asD_rep (R2.2 i y u hy hu) hf
      split at h4
      · rename_i hc
        obtain ⟨_, hs1, hplain⟩ := hc
        have h4 := Option.some.inj h4
        subst h4
        have hfn : flat.length = len := by rw [hfl, hul, hs1, Nat.mul_one]
        simp only [List.all_eq_true] at hplain
        refine .inl ⟨_, _, main, Post.new H.I H.ver _ e _ ⟨w.heap.size, 0, len, len, [], [w.heap.size]⟩ _ rfl ?_ ?_⟩
        · intro β' U' E
          refine ⟨rfl, by rw [hdl, hfn], flat.toArray, e, by simp, by simp [hfn], by simp [hdl, hfn], fun i x hx => ?_⟩
          have hi : i < flat.length := by rw [← hdl]; exact (List.getElem?_eq_some_iff.1 hx).1
          have hp := hplain x (List.mem_of_getElem? hx)
          exact ⟨plain_row hp, flat[i], by simp [hi], (hdr i x flat[i] hx (by simp [hi])).ext E.eF E.eP E.eh⟩
        · intro β' U' hu hβ
          refine .own _ _ _ rfl hu fun L hL => ?_
          rw [hβ] at hL
          simp only [Option.some.injEq, Prod.mk.injEq, true_and] at hL
          subst hL; rfl
      · have h4 := Option.some.inj h4
        subst h4
        refine .inl ⟨_, _, main, Post.frozen H.I _ e (.sl _ _ _ _ _ flat (by rw [hdl, hfl, hul]) (Nat.le_refl _) hdl ?_ ?_)⟩
        · intro i u hu
          have hi : i < flat.length := (List.getElem?_eq_some_iff.1 hu).1
          exact ⟨w.heap.size, 0, rfl, Or.inr rfl, by simp [cellAt, hu]⟩
        · intro i x u hx hu
          exact DRep.ext (F' := ⟨fun b => F b ∨ b = w.heap.size, F.p⟩) (fun _ h => Or.inl h) (fun _ h => h) (fun b hb => getElem?_push_lt (H.I.lt b hb)) (hdr i x u hx hu)
  · simp at h
end
end Go.Proofs.YtnfhglplafmfiaaGreatE

namespace Go.Proofs.YtnfhglplafmfiaaGreatE
set_option linter.unusedSectionVars false
set_option linter.unusedSimpArgs false
set_option linter.unusedVariables false
open Go
set_option linter.unusedSectionVars false

section
variable {P : Program} {n0 : Nat} {M : Nat → Prop} {F : Frz} {β : Beta} {U : Nat → Prop} {O : Nat → Option (Nat × Ob)} {look : Nat → Option AV} {a : Act} {w : World} {ver : Nat} {h : Heap}
variable {cx : Cx} (hP : cx.P = P) (H : Hyp n0 M F β U O look a w ver) {out : Out} {dst : Option Tmp} {ty : TypeId} {pos : String} {aft : Array Edge} {gd : Option (Nat × Bool)}

/-- Cells behind an address. -/
def Cells (h : Heap) (A : Option Addr) (us : List Value) : Prop :=
  ∀ (j : Nat) (u : Value), us[j]? = some u → ∃ b off, A = some ⟨b, off, none⟩ ∧ cellAt h b (off + j) = some u

theorem run_first {A : Option Addr} {us : List Value} {m n c : Nat} (hc : Cells w.heap A us) (hl : us.length = m) :
    (Builtin.firstCells 1 m (.slice A n c)).run P w = .ok us.toArray w := by
  cases A with
  | none =>
    cases us with
    | nil => simp [Builtin.firstCells]
    | cons u us => obtain ⟨_, _, h, _⟩ := hc 0 u rfl; simp at h
  | some x =>
    have := run_loadCells_list (P := P) w x us (fun j v hv => by
      obtain ⟨b, off, hA, hcell⟩ := hc j v hv
      simp only [Option.some.injEq] at hA
      subst hA
      rw [add_cell]; exact hcell)
    simp only [Builtin.firstCells, Nat.mul_one]
    rw [← hl]; exact this

/-- What an append of m cells to a slice of len cells comes to. -/
structure App (w : World) (A : Option Addr) (len : Nat) (olds news : List Value) (v' : Value) (w' : World) : Prop where
  ex : ∃ b o cap c e, v' = .slice (some ⟨b, o, none⟩) (len + news.length) cap ∧ w'.heap[b]? = some (.cells c e (0, 0)) ∧ o + cap ≤ c.size ∧ len + news.length ≤ cap ∧
    (∀ j, j < len → c[o + j]? = olds[j]?) ∧ (∀ j, j < news.length → c[o + len + j]? = news[j]?) ∧
    ((b = w.heap.size ∧ w'.heap.size = w.heap.size + 1) ∨ ((∃ x, A = some x ∧ x.block = b) ∧ w'.heap.size = w.heap.size)) ∧ ∀ k, k ≠ b → k < w.heap.size → w'.heap[k]? = w.heap[k]?
  os : w'.os = w.os
  tape : w'.tape = w.tape
  output : w'.output = w.output

theorem run_append {t e : TypeId} (ht : P.underlying t = some (.slice e)) {inf : TypeInfo} (hinf : P.info? e = some inf) {z : Value} (hz : inf.zero = some z) (hzs : z.cells.size = 1) (hs : inf.size = 1) (hb : inf.bytes ≤ 64)
    {A A' : Option Addr} {len cap n c : Nat} {olds news : List Value} (ho : Cells w.heap A olds) (hn : Cells w.heap A' news) (hol : olds.length = len) (hnl : news.length = n) (hlc : len ≤ cap)
    (hbd : len + n ≤ bound) (hA : A = none → n ≠ 0 ∧ cap = 0)
    (hA2 : ∀ x, A = some x → ∃ b o ca ea, x = ⟨b, o, none⟩ ∧ w.heap[b]? = some (.cells ca ea (0, 0)) ∧ o + cap ≤ ca.size) (h1 : ∀ u ∈ news, u.oneCell' = true) :
    ∃ v' w', (Builtin.append_ #[t, t] ty #[.slice A len cap, .slice A' n c]).run P w = .ok v' w' ∧ App w A len olds news v' w' := by
  have hf := run_first (P := P) (w := w) (n := n) (c := c) hn hnl
  have hbd' : len + n ≤ 1099511627776 := hbd
  by_cases hroom : len + n ≤ cap
  · cases A with
    | none => obtain ⟨q1, q2⟩ := hA rfl; omega
    | some x =>
      obtain ⟨b, o, ca, ea, rfl, hh, hsz⟩ := hA2 x rfl
      have hst := run_storeCells (P := P) (b := b) (off := o + len) (e := ea) news 0 w ca hh (by omega) h1
      simp only [Nat.add_zero] at hst
      refine ⟨.slice (some ⟨b, o, none⟩) (len + n) cap, if news = [] then w else wr w b (putA ca (o + len) news) ea, ?_, ?_⟩
      · simp [Builtin.append_, run_und ht, sizeOf, typeInfo, hinf, hs, Builtin.lenOf, hroom, hf, addN, hst]
      · by_cases hne : news = []
        · subst hne
          simp only [if_true]
          refine ⟨⟨b, o, cap, ca, ea, by simp at hnl; simp [← hnl], hh, hsz, by simpa using hlc, fun j hj => ?_, fun j hj => by simp at hj, .inr ⟨⟨_, rfl, rfl⟩, rfl⟩, fun _ _ _ => rfl⟩, rfl, rfl, rfl⟩
          have hjo : j < olds.length := by omega
          obtain ⟨b', o', hA', hcell⟩ := ho j olds[j] (by simp [hjo])
          simp only [Option.some.injEq, Addr.mk.injEq] at hA'
          obtain ⟨rfl, rfl, _⟩ := hA'
          rw [cellAt_of hh] at hcell
          rw [hcell]; simp [hjo]
        · simp only [hne, if_false]
          refine ⟨⟨b, o, cap, _, ea, by rw [hnl], wr_heap hh, by rw [size_putA]; exact hsz, by omega, fun j hj => ?_, fun j hj => ?_, .inr ⟨⟨_, rfl, rfl⟩, size_wr⟩, fun k hk _ => wr_other hk⟩, rfl, rfl, rfl⟩
          · rw [putA_before _ _ _ _ (by omega)]
            have hjo : j < olds.length := by omega
            obtain ⟨b', o', hA', hcell⟩ := ho j olds[j] (by simp [hjo])
            simp only [Option.some.injEq, Addr.mk.injEq] at hA'
            obtain ⟨rfl, rfl, _⟩ := hA'
            rw [cellAt_of hh] at hcell
            rw [hcell]; simp [hjo]
          · exact putA_at _ _ _ _ hj (by omega)
  · have hfo := run_first (P := P) (w := w.drew) (n := len) (c := cap) (m := len) ho hol
    have hfn := run_first (P := P) (w := w.drew) (n := n) (c := c) (m := n) hn hnl
    have h63' : ¬ (9223372036854775807 < ((len : Int) + (n : Int))) := by omega
    have hfit : Builtin.nextslicecap (len + n) cap * inf.bytes ≤ 281474976710656 := by
      refine growslice_fits (by omega) ?_
      calc (len + n) * inf.bytes ≤ 1099511627776 * 64 := Nat.mul_le_mul hbd' hb
        _ ≤ 140737488355328 := by omega
    have h48' : ¬ (281474976710656 < Builtin.nextslicecap (len + n) cap * inf.bytes) := by omega
    generalize hcap : (Question.appendCap (len + n) cap e).cut (w.tape w.drawn (.appendCap (len + n) cap e)) = cap'
    have hge : len + n ≤ cap' := by rw [← hcap]; simp [Question.cut]
    refine ⟨.slice (some ⟨w.heap.size, 0, none⟩) (len + n) cap', { w with drawn := w.drawn + 1, heap := w.heap.push (.cells (olds.toArray ++ news.toArray ++ Builtin.zeroCells z.cells (cap' - (len + n))) e) }, ?_, ?_⟩
    · simp [Builtin.append_, run_und ht, sizeOf, typeInfo, zeroValue, hinf, hz, hs, Builtin.lenOf, hroom, h63', h48', Question.forced, hcap, newRow]
      rw [hfo]
      simp only [Result.andThen_ok]
      rw [hfn]
      simp only [Result.andThen_ok]
      have e1 : olds.toArray ++ (news.toArray ++ Builtin.zeroCells z.cells (cap' - (len + n))) = (olds ++ news).toArray ++ Builtin.zeroCells z.cells (cap' - (len + n)) := by
        rw [← Array.append_assoc]; simp
      rw [e1]
      rfl
    · refine ⟨⟨w.heap.size, 0, cap', olds.toArray ++ news.toArray ++ Builtin.zeroCells z.cells (cap' - (len + n)), e, by rw [hnl], by simp, ?_, by omega, fun j hj => ?_, fun j hj => ?_, .inl ⟨rfl, by simp⟩, fun k _ hk => getElem?_push_lt hk⟩, rfl, rfl, rfl⟩
      · simp [Builtin.zeroCells, hzs]; omega
      · have : j < olds.length := by omega
        have h2 : j < olds.length + news.length := by omega
        simp [Array.getElem?_append, this, h2, List.getElem?_append]
      · simp only [Nat.zero_add]
        rw [Array.getElem?_append, if_pos (by simp; omega), Array.getElem?_append, if_neg (by simp; omega)]
        simp [hol]
theorem run_append0 {t t' e : TypeId} (ht : P.underlying t = some (.slice e)) {k : IntKind} (ht' : P.underlying t' = some (.int k)) {inf : TypeInfo} (hinf : P.info? e = some inf) {z : Value} (hz : inf.zero = some z) {z1 : Value} (hzs : z.cells = #[z1]) (hs : inf.size = 1) (hb : inf.bytes ≤ 64)
    {K : Nat} (hK : 0 < K) (hbd : K ≤ 1099511627776) :
    ∃ v' w', (Builtin.append_ #[t, t'] ty #[.slice none 0 0, .int .i64 K]).run P w = .ok v' w' ∧ App w none 0 [] (List.replicate K z1) v' w' := by
  have hwr : IntKind.wrap .i64 (K : Int) = K := IntWalk.i64_in _ (by omega)
  have h0 : ¬ ((K : Int) < 0) := by omega
  have hKb : K * inf.bytes ≤ 1099511627776 * 64 := Nat.mul_le_mul hbd hb
  have hKb2 : ¬ (281474976710656 < (K : Int) * inf.bytes) := by
    have : ((K * inf.bytes : Nat) : Int) = (K : Int) * inf.bytes := Int.natCast_mul _ _
    omega
  have hK0 : ¬ K = 0 := by omega
  have hKi : ¬ (9223372036854775807 < (K : Int)) := by omega
  have hfit : Builtin.nextslicecap K 0 * inf.bytes ≤ 281474976710656 := by
    refine growslice_fits (by omega) ?_
    calc K * inf.bytes ≤ 1099511627776 * 64 := Nat.mul_le_mul hbd hb
      _ ≤ 140737488355328 := by omega
  have h48' : ¬ (281474976710656 < Builtin.nextslicecap K 0 * inf.bytes) := by omega
  have hzc : ∀ n, Builtin.zeroCells #[z1] n = (List.replicate n z1).toArray := by
    intro n
    apply Array.ext
    · simp [Builtin.zeroCells]
    · intro j h1 h2
      simp [Builtin.zeroCells, Nat.mod_one]
  generalize hcap : (Question.appendCap K 0 e).cut (w.tape w.drawn (.appendCap K 0 e)) = cap'
  have hge : K ≤ cap' := by rw [← hcap]; simp [Question.cut]
  refine ⟨.slice (some ⟨w.heap.size, 0, none⟩) K cap', { w with drawn := w.drawn + 1, heap := w.heap.push (.cells ((List.replicate K z1).toArray ++ (List.replicate (cap' - K) z1).toArray) e) }, ?_, ?_⟩
  · simp [Builtin.append_, run_und ht, run_und ht', sizeOf, typeInfo, zeroValue, hinf, hz, hzs, hs, Builtin.lenOf, Builtin.firstCells, Go.asInt, asIntOf, hwr, h0, hKb2, hK0, hKi, h48', Question.forced, hcap, newRow, hzc]
    rfl
  · refine ⟨⟨w.heap.size, 0, cap', (List.replicate K z1).toArray ++ (List.replicate (cap' - K) z1).toArray, e, by simp, by simp, by simp; omega, by simp; omega, fun j hj => by omega, fun j hj => ?_, .inl ⟨rfl, by simp⟩, fun k _ hk => getElem?_push_lt hk⟩, rfl, rfl, rfl⟩
    simp only [List.length_replicate] at hj
    simp [Array.getElem?_append, hj]
    have : j < K + (cap' - K) := by omega
    simp [this]
end
end Go.Proofs.YtnfhglplafmfiaaGreatE

namespace Go.Proofs.YtnfhglplafmfiaaGreatE
set_option linter.unusedSectionVars false
set_option linter.unusedSimpArgs false
set_option linter.unusedVariables false
open Go
set_option linter.unusedSectionVars false

section
variable {P : Program} {n0 : Nat} {M : Nat → Prop} {F : Frz} {β : Beta} {U : Nat → Prop} {O : Nat → Option (Nat × Ob)} {look : Nat → Option AV} {a : Act} {w : World} {ver : Nat} {h : Heap}
variable {cx : Cx} (hP : cx.P = P) (H : Hyp n0 M F β U O look a w ver) {out : Out} {dst : Option Tmp} {ty : TypeId} {pos : String} {aft : Array Edge} {gd : Option (Nat × Bool)}
include H

theorem app_frame {A : Option Addr} {len : Nat} {olds news : List Value} {v' : Value} {w' : World} {id : Nat} (hold : ∀ x, A = some x → ∃ r L, β id = some (r, L) ∧ x.block ∈ L.fp)
    {b : Nat} (hb : (b = w.heap.size ∧ w'.heap.size = w.heap.size + 1) ∨ ((∃ x, A = some x ∧ x.block = b) ∧ w'.heap.size = w.heap.size)) (hk : ∀ k, k ≠ b → k < w.heap.size → w'.heap[k]? = w.heap[k]?)
    (hApp : App w A len olds news v' w') :
    (∀ k, F k → w'.heap[k]? = w.heap[k]?) ∧ Stp n0 M w w' ∧ (∀ j v L', β j = some (v, L') → j ≠ id → ∀ k ∈ L'.fp, w'.heap[k]? = w.heap[k]?) ∧ w.heap.size ≤ w'.heap.size ∧
      ((w.heap.size ≤ b ∧ b < w'.heap.size) ∨ ∃ r L, β id = some (r, L) ∧ b ∈ L.fp) := by
  have cases : b = w.heap.size ∨ ∃ r L, β id = some (r, L) ∧ b ∈ L.fp := by
    rcases hb with ⟨h1, _⟩ | ⟨⟨x, hx, rfl⟩, _⟩
    · exact .inl h1
    · exact .inr (hold x hx)
  have hsz : w.heap.size ≤ w'.heap.size := by rcases hb with ⟨_, h2⟩ | ⟨_, h2⟩ <;> omega
  refine ⟨fun k hF => ?_, ⟨hApp.os, hApp.tape, hApp.output, hsz, fun k hkn hM => ?_⟩, fun j v L' hj hne k hkL => ?_, hsz, ?_⟩
  · have hlt := H.I.lt k hF
    refine hk k (fun e => ?_) hlt
    rcases cases with h1 | ⟨r, L, hL, hbL⟩
    · omega
    · exact (H.I.out id r L hL b hbL).1 (e ▸ hF)
  · have hlt : k < w.heap.size := Nat.lt_of_lt_of_le hkn H.I.le
    refine hk k (fun e => ?_) hlt
    rcases cases with h1 | ⟨r, L, hL, hbL⟩
    · omega
    · rcases (H.I.out id r L hL b hbL).2.2 with h2 | h2
      · omega
      · exact hM (e ▸ h2)
  · have hlt := (H.I.out j v L' hj k hkL).2.1
    refine hk k (fun e => ?_) hlt
    rcases cases with h1 | ⟨r, L, hL, hbL⟩
    · omega
    · exact H.I.disj j v L' id r L hj hL hne k hkL (e ▸ hbL)
  · rcases hb with ⟨h1, h2⟩ | ⟨⟨x, hx, rfl⟩, _⟩
    · exact .inl ⟨by omega, by omega⟩
    · exact .inr (hold x hx)

/-- Behind an append to a row of one's own (or to nil). -/
theorem row_app {A : Option Addr} {cells more : List D} {olds news : List Value} {v' : Value} {w' : World} {id : Nat} (hold : ∀ x, A = some x → ∃ r L, β id = some (r, L) ∧ x.block ∈ L.fp)
    (hApp : App w A cells.length olds news v' w') (hnl : news.length = more.length) (hol : olds.length = cells.length) (hp : ∀ (j : Nat) (d : D) (u : Value), cells[j]? = some d → olds[j]? = some u → rowD d = true ∧ DRep F w.heap d u)
    (hp' : ∀ (j : Nat) (d : D) (u : Value), more[j]? = some d → news[j]? = some u → rowD d = true ∧ DRep F w.heap d u) :
    Post n0 M F β U O w ver { val := .own id ver, upd := [(id, some (ver, .row (cells ++ more)))] } v' w' := by
  obtain ⟨b, o, cap, c, e, hv', hh, hs, hlc, h1, h2, hb, hk⟩ := hApp.ex
  obtain ⟨g1, g2, g3, g4, g5⟩ := app_frame H hold hb hk hApp
  rw [hnl] at hv' hlc h2
  have E := Ext.put (F := F) (h := w.heap) (β := β) (id := id) (L := ⟨b, o, cells.length + more.length, cap, [], [b]⟩) (rem := []) H.ver g1
  refine ⟨F, _, _, H.I.upd id ver _ _ [] (fun j => updO_put (rem := []) j) (fun _ => rfl) E (.inr rfl) ?_ ?_ ?_ g4, ?_, E, fun v h => h, g2⟩
  · refine ⟨rfl, by simp, c, e, hh, hs, by simp; exact hlc, fun j d hd => ?_⟩
    rw [List.getElem?_append] at hd
    split at hd
    · rename_i hj
      have hjo : j < olds.length := by omega
      obtain ⟨q1, q2⟩ := hp j d olds[j] hd (by simp [hjo])
      exact ⟨q1, olds[j], by rw [h1 j hj]; simp [hjo], q2.ext (fun _ h => h) (fun _ h => h) g1⟩
    · rename_i hj
      have hjm : j - cells.length < more.length := (List.getElem?_eq_some_iff.1 hd).1
      have hjn : j - cells.length < news.length := by omega
      obtain ⟨q1, q2⟩ := hp' _ d news[j - cells.length] hd (by simp [hjn])
      have := h2 (j - cells.length) hjm
      rw [show o + cells.length + (j - cells.length) = o + j by omega] at this
      exact ⟨q1, _, by rw [this]; simp [hjn], q2.ext (fun _ h => h) (fun _ h => h) g1⟩
  · intro x hx
    simp only [List.mem_singleton] at hx
    subst hx
    rcases g5 with g5 | ⟨r, L, hL, hbL⟩
    · exact .inl g5
    · exact .inr ⟨id, r, L, .inl rfl, hL, hbL⟩
  · exact fun j v L' hj hne _ => g3 j v L' hj hne
  · refine .own _ _ _ (by rw [hv']; rfl) (.inr rfl) fun L hL => ?_
    simp only [if_true, Option.some.injEq, Prod.mk.injEq, true_and] at hL
    subst hL; exact hv'

omit H in
theorem nodup_append_new {x : Value} : ∀ (l : List Value), (l.flatMap blockOf).Nodup → (blockOf x).Nodup → (∀ b ∈ blockOf x, b ∉ l.flatMap blockOf) → ((l ++ [x]).flatMap blockOf).Nodup := by
  intro l h1 h2 h3
  simp only [List.flatMap_append, List.flatMap_cons, List.flatMap_nil, List.append_nil, List.nodup_append]
  exact ⟨h1, h2, fun a ha b hb e => h3 b hb (e ▸ ha)⟩

/-- Behind an append of one row to a table of rows (or to nil). -/
theorem mat_app {A : Option Addr} {op : Bool} {rows : List (List D)} {inner : List Value} {c : AV} {u : Value} {r0 : List D} {used : List Nat} {v' : Value} {w' : World} {id : Nat}
    (hold : ∀ x, A = some x → ∃ r L, β id = some (r, L) ∧ x.block ∈ L.fp ∧ x.block ∉ inner.flatMap blockOf ∧ ∃ op' rs, O id = some (r, .mat op' rs))
    (hin : inner.length = rows.length) (hrows : ∀ (i : Nat) (r : List D) (x : Value), rows[i]? = some r → inner[i]? = some x → RowV F w.heap r x) (hnd : (inner.flatMap blockOf).Nodup)
    (hfp : ∀ k ∈ inner.flatMap blockOf, ∃ r L, β id = some (r, L) ∧ k ∈ L.fp ∧ ∃ op' rs, O id = some (r, .mat op' rs))
    (hu : VRep F w.heap β U c u) (hro : rowsOf O c = some (r0, used)) (hApp : App w A rows.length inner [u] v' w') (hid : ∀ k ∈ used, k ≠ id ∨ A = none) (hfree : A = none → inner = []) :
    Post n0 M F β U O w ver { val := .own id ver, upd := (id, some (ver, .mat op (rows ++ [r0]))) :: used.map fun i => (i, none) } v' w' := by
  obtain ⟨b, o, cap, ca, e, hv', hh, hs, hlc, h1, h2, hb, hk⟩ := hApp.ex
  obtain ⟨g1, g2, g3, g4, g5⟩ := app_frame H (fun x hx => (hold x hx).imp fun r hr => hr.imp fun L hL => ⟨hL.1, hL.2.1⟩) hb hk hApp
  have hspec := rowsOf_spec H hro hu
  let L' : Loc := ⟨b, o, rows.length + 1, cap, if op = true then [] else inner ++ [u], b :: (inner ++ [u]).flatMap blockOf⟩
  have E := Ext.put (F := F) (h := w.heap) (β := β) (id := id) (L := L') (rem := used) H.ver g1
  -- the block of the new row is none of the table's
  have hblk : ∀ k ∈ blockOf u, ∃ j va La, j ∈ used ∧ β j = some (va, La) ∧ k ∈ La.fp ∧ k < w.heap.size ∧ O j = some (va, .row r0) := by
    intro k hk'
    rcases hspec with ⟨_, _, e0⟩ | ⟨j, va, La, _, hus, hO, hLa, f, _, _, e0⟩
    · rw [e0] at hk'; simp [blockOf] at hk'
    · rw [e0] at hk'
      have hkL : k ∈ La.fp := by rw [f]; simpa [blockOf] using hk'
      exact ⟨j, va, La, by simp [hus], hLa, hkL, (H.I.out j va La hLa k hkL).2.1, hO⟩
  have hfresh : ∀ k ∈ blockOf u, k ∉ inner.flatMap blockOf := by
    intro k hk' hm
    obtain ⟨j, va, La, _, hLa, hkL, _, hO⟩ := hblk k hk'
    obtain ⟨r, L, hL, hkL2, op', rs, hO2⟩ := hfp k hm
    refine H.I.disj j va La id r L hLa hL (fun e1 => ?_) k hkL hkL2
    subst e1; rw [hO] at hO2; simp at hO2
  have hub : (blockOf u).Nodup := by
    rcases hspec with ⟨_, _, e0⟩ | ⟨_, _, _, _, _, _, _, _, _, _, e0⟩ <;> rw [e0] <;> simp [blockOf]
  have hnb : ∀ k ∈ (inner ++ [u]).flatMap blockOf, k ≠ b ∧ k < w.heap.size := by
    intro k hm
    simp only [List.flatMap_append, List.flatMap_cons, List.flatMap_nil, List.append_nil, List.mem_append] at hm
    rcases hm with hm | hm
    · obtain ⟨r, L, hL, hkL, _⟩ := hfp k hm
      have hlt := (H.I.out id r L hL k hkL).2.1
      refine ⟨fun e1 => ?_, hlt⟩
      rcases hb with ⟨h3, _⟩ | ⟨⟨x, hx, h3⟩, _⟩
      · omega
      · obtain ⟨_, _, _, _, h4, _⟩ := hold x hx
        rw [h3, ← e1] at h4; exact h4 hm
    · obtain ⟨j, va, La, _, hLa, hkL, hlt, hO⟩ := hblk k hm
      refine ⟨fun e1 => ?_, hlt⟩
      rcases hb with ⟨h3, _⟩ | ⟨⟨x, hx, h3⟩, _⟩
      · omega
      · obtain ⟨r, L, hL, hxL, _, op', rs, hO2⟩ := hold x hx
        refine H.I.disj j va La id r L hLa hL (fun e2 => ?_) k hkL (by rw [e1, ← h3]; exact hxL)
        subst e2; rw [hO] at hO2; simp at hO2
  have hback : ∀ {row : List D} {z : Value}, RowV F w.heap row z → (∀ k ∈ blockOf z, k ≠ b ∧ k < w.heap.size) → RowV F w'.heap row z := by
    intro row z hr hne
    rcases hr with h | ⟨b2, o2, cap2, hz, hB⟩
    · exact .inl h
    · obtain ⟨q1, q2⟩ := hne b2 (by simp [hz, blockOf])
      exact .inr ⟨b2, o2, cap2, hz, hB.ext (fun _ h => h) (fun _ h => h) g1 (hk b2 q1 q2)⟩
  refine ⟨F, _, _, H.I.upd id ver L' _ used (fun j => updO_put j) (fun _ => rfl) E (.inr rfl) ?_ ?_ ?_ g4, ?_, E, fun v h => h, g2⟩
  · refine ⟨by simp [L'], by simpa [L'] using hlc, ca, e, inner ++ [u], hh, hs, by simp [hin], fun i x hx => ?_, fun i row x hrow hx => ?_, rfl, rfl, ?_⟩
    · rw [List.getElem?_append] at hx
      split at hx
      · rename_i hi
        show ca[o + i]? = some x
        rw [h1 i (by omega)]; exact hx
      · rename_i hi
        have hi1 : i - inner.length < 1 := by have := (List.getElem?_eq_some_iff.1 hx).1; simpa using this
        have := h2 (i - inner.length) (by simpa using hi1)
        show ca[o + i]? = some x
        rw [show o + rows.length + (i - inner.length) = o + i by omega] at this
        rw [this]; exact hx
    · have hmem : ∀ k ∈ blockOf x, k ≠ b ∧ k < w.heap.size := fun k hk' => hnb k (List.mem_flatMap.2 ⟨x, List.mem_of_getElem? hx, hk'⟩)
      rw [List.getElem?_append] at hx hrow
      rw [hin] at hx
      split at hx
      · rename_i hi
        rw [if_pos hi] at hrow
        exact hback (hrows i row x hrow hx) hmem
      · rename_i hi
        rw [if_neg hi] at hrow
        have hi1 : i - rows.length = 0 := by have := (List.getElem?_eq_some_iff.1 hx).1; simp at this; omega
        rw [hi1] at hx hrow
        simp only [List.getElem?_cons_zero, Option.some.injEq] at hx hrow
        subst hx; subst hrow
        refine hback ?_ hmem
        rcases hspec with ⟨rfl, _, e0⟩ | ⟨_, va, La, _, _, _, hLa, f, _, hB, e0⟩
        · exact .inl ⟨rfl, e0⟩
        · exact .inr ⟨La.block, La.base, La.cap, e0, hB⟩
    · simp only [L', List.nodup_cons]
      exact ⟨fun hm => (hnb b hm).1 rfl, nodup_append_new inner hnd hub hfresh⟩
  · intro k hk'
    simp only [L', List.mem_cons] at hk'
    rcases hk' with rfl | hk'
    · rcases g5 with g5 | ⟨r, L, hL, hbL⟩
      · exact .inl g5
      · exact .inr ⟨id, r, L, .inl rfl, hL, hbL⟩
    · simp only [List.flatMap_append, List.flatMap_cons, List.flatMap_nil, List.append_nil, List.mem_append] at hk'
      rcases hk' with hm | hm
      · obtain ⟨r, L, hL, hkL, _⟩ := hfp k hm
        exact .inr ⟨id, r, L, .inl rfl, hL, hkL⟩
      · obtain ⟨j, va, La, hj, hLa, hkL, _⟩ := hblk k hm
        exact .inr ⟨j, va, La, .inr hj, hLa, hkL⟩
  · exact fun j v L' hj hne _ => g3 j v L' hj hne
  · refine .own _ _ _ (by rw [hv']; rfl) (.inr rfl) fun L hL => ?_
    simp only [if_true, Option.some.injEq, Prod.mk.injEq, true_and] at hL
    subst hL; exact hv'
end
end Go.Proofs.YtnfhglplafmfiaaGreatE

namespace Go.Proofs.YtnfhglplafmfiaaGreatE
set_option linter.unusedSectionVars false
set_option linter.unusedSimpArgs false
set_option linter.unusedVariables false
open Go
set_option linter.unusedSectionVars false

section
variable {P : Program} {n0 : Nat} {M : Nat → Prop} {F : Frz} {β : Beta} {U : Nat → Prop} {O : Nat → Option (Nat × Ob)} {look : Nat → Option AV} {a : Act} {w : World} {ver : Nat} {h : Heap}
variable {cx : Cx} (hP : cx.P = P) (H : Hyp n0 M F β U O look a w ver) {out : Out} {dst : Option Tmp} {ty : TypeId} {pos : String} {aft : Array Edge} {gd : Option (Nat × Bool)}

include H in
theorem args_rep {l : List Operand} {args : List AV} (h : mapO (opnd look) l = some args) : LRel F w.heap β U args (l.map a.eval) := by
  obtain ⟨k1, k2⟩ := mapO_spec h
  refine ⟨by simpa using k1.symm, fun i x u hx hu => ?_⟩
  simp only [List.getElem?_map, Option.map_eq_some_iff] at hu
  obtain ⟨p, hp, rfl⟩ := hu
  exact opnd_rep H (k2 i p x hp hx)

theorem zer1_spec {e : TypeId} (hz : zer1 P e = true) : ∃ inf z, P.info? e = some inf ∧ inf.zero = some z ∧ z.cells.size = 1 := by
  unfold zer1 at hz
  split at hz
  · rename_i x hx
    obtain ⟨inf, z, hi, hz', hv⟩ := zer_spec hx
    simp only [Bool.and_eq_true, beq_iff_eq] at hz
    have := (cells_rep (F := ⟨fun _ => False, fun _ => False⟩) (h := #[]) (β := fun _ => none) (U := fun _ => True) (ofValue_rep hv) hz.1).1
    exact ⟨inf, z, hi, hz', by omega⟩
  · simp at hz

theorem plain_vals {xs : List D} {us : List Value} (hl : us.length = xs.length) (hr : ∀ (j : Nat) (x : D) (u : Value), xs[j]? = some x → us[j]? = some u → DRep F h x u) (hp : ∀ d ∈ xs, plainD d = true) : us = xs.map pv := by
  apply List.ext_getElem?
  intro i
  rw [List.getElem?_map]
  cases hx : xs[i]? with
  | none => rw [List.getElem?_eq_none]; · rfl
            have := List.getElem?_eq_none_iff.1 hx; omega
  | some x =>
    have hi : i < us.length := by rw [hl]; exact (List.getElem?_eq_some_iff.1 hx).1
    rw [List.getElem?_eq_getElem hi]
    simp only [Option.map_some, Option.some.injEq]
    exact plain_pv (hr i x _ hx (List.getElem?_eq_getElem hi)) (hp x (List.mem_of_getElem? hx))

theorem row_vals {b o cap : Nat} {cells : List D} (hB : RowB F h b o cap cells) : ∃ olds : List Value, olds.length = cells.length ∧ Cells h (some ⟨b, o, none⟩) olds ∧
    ∀ (j : Nat) (d : D) (u : Value), cells[j]? = some d → olds[j]? = some u → rowD d = true ∧ DRep F h d u := by
  obtain ⟨c, e, hh, hs, hl, hx⟩ := hB
  have get : ∀ {j : Nat} {u : Value}, ((c.toList.drop o).take cells.length)[j]? = some u → c[o + j]? = some u := by
    intro j u hu
    have hj : j < cells.length := by have := (List.getElem?_eq_some_iff.1 hu).1; simp at this; omega
    rwa [List.getElem?_take, if_pos hj, List.getElem?_drop, Array.getElem?_toList] at hu
  refine ⟨(c.toList.drop o).take cells.length, by simp; omega, fun j u hu => ⟨b, o, rfl, (cellAt_of hh).trans (get hu)⟩, fun j d u hd hu => ?_⟩
  obtain ⟨q1, v, q2, q3⟩ := hx j d hd
  rw [get hu] at q2
  exact ⟨q1, by rw [Option.some.inj q2]; exact q3⟩

theorem pv_one {d : D} (hp : plainD d = true) : (pv d).oneCell' = true := by
  cases d <;> first | rfl | simp [plainD] at hp

theorem tableRow_spec {y : AV} {r : List D} {used : List Nat} (h : tableRow O y = some (r, used)) : ∃ ia va c, y = .own ia va ∧ at_ O ia va = some (.box [c]) ∧ rowsOf O c = some (r, used) := by
  unfold tableRow at h
  split at h
  · rename_i ia va
    split at h
    · rename_i c hat; exact ⟨ia, va, c, rfl, hat, h⟩
    · simp at h
  · simp at h

theorem two {args : Array Operand} {x y : AV} (R : LRel F w.heap β U [x, y] (args.toList.map a.eval)) : ∃ o p, args = #[o, p] ∧ VRep F w.heap β U x (a.eval o) ∧ VRep F w.heap β U y (a.eval p) := by
  have hl : args.toList.length = 2 := by have := R.1; simpa using this.symm
  obtain ⟨o, p, ho⟩ : ∃ o p, args.toList = [o, p] := by
    match hm : args.toList, hl with
    | [o, p], _ => exact ⟨o, p, rfl⟩
  exact ⟨o, p, by rw [← Array.toArray_toList (xs := args), ho], R.2 0 x _ rfl (by simp [ho]), R.2 1 y _ rfl (by simp [ho])⟩

theorem drep_int_eq {k : IntKind} {n : Int} {v : Value} (r : VRep F h β U (.d (.int k n)) v) : v = .int k n := by
  cases r with | d _ _ hd => cases hd; rfl

include H in
theorem place_spec {x : AV} {id v off len : Nat} {cells : List D} (hx : place O x = some (id, v, cells, off, len)) {u : Value} (r : VRep F w.heap β U x u) :
    ∃ L c e o cap, O id = some (v, .row cells) ∧ β id = some (v, L) ∧ L.fp = [L.block] ∧ L.len = cells.length ∧ w.heap[L.block]? = some (.cells c e (0, 0)) ∧ RowB F w.heap L.block L.base L.cap cells ∧ off + len ≤ cells.length ∧ L.base + cells.length ≤ c.size ∧
      u = .slice (some ⟨L.block, o, none⟩) len cap ∧ (0 < len → o = L.base + off) := by
  cases r with
  | own i r v ho hu hv =>
    simp only [place] at hx
    split at hx
    · rename_i cs hat
      simp only [Option.some.injEq, Prod.mk.injEq] at hx
      obtain ⟨rfl, rfl, rfl, rfl, rfl⟩ := hx
      obtain ⟨L, hL, f, l, hB⟩ := H.I.objs i r _ (at_iff.1 hat)
      have hB' := hB
      obtain ⟨c, e, hh, hs, hlc, _⟩ := hB'
      exact ⟨L, c, e, L.base, L.cap, at_iff.1 hat, hL, f, l, hh, hB, by omega, by omega, by rw [hv L hL, l], fun _ => by omega⟩
    · simp at hx
  | sub i r off len v ho hu hv =>
    simp only [place] at hx
    split at hx
    · rename_i cs hat
      obtain ⟨hle, hx⟩ := ite_some.1 hx
      simp only [Option.some.injEq, Prod.mk.injEq] at hx
      obtain ⟨rfl, rfl, rfl, rfl, rfl⟩ := hx
      obtain ⟨L, hL, f, l, hB⟩ := H.I.objs i r _ (at_iff.1 hat)
      have hB' := hB
      obtain ⟨c, e, hh, hs, hlc, _⟩ := hB'
      obtain ⟨h1, o, h2, h3, _⟩ := hv L hL
      exact ⟨L, c, e, o, _, at_iff.1 hat, hL, f, l, hh, hB, hle, by omega, h2, fun h0 => h3 (by omega)⟩
    · simp at hx
  | _ => simp [place] at hx

include H in
/-- Some plain cells put into a row. -/
theorem put_post {x : AV} {id v off len : Nat} {cells ds : List D} (hx : place O x = some (id, v, cells, off, len)) {u : Value} (r : VRep F w.heap β U x u) (hd : ∀ d ∈ ds, plainD d = true) (hl : ds.length ≤ len) {y : AV} {val : Value} (hy : ∀ h, VRep F h β U y val) :
    ∃ b o cap w', u = .slice (some ⟨b, o, none⟩) len cap ∧ (storeCells ⟨b, o, none⟩ (ds.map pv) 0).run P w = .ok () w' ∧ Post n0 M F β U O w ver { val := y, upd := [(id, some (v, .row (setFrom cells off ds)))] } val w' := by
  obtain ⟨L, c, e, o, cap, hO, hL, f, l, hh, hB, hle, hsz, he, ho⟩ := place_spec H hx r
  have hput := RowB.put hh hB (i := off) hd (by omega) (H.I.out id v L hL L.block (by simp [f])).1
  have P1 : Post n0 M F β U O w ver { val := y, upd := [(id, some (v, .row (setFrom cells off ds)))] } val (wr w L.block (putA c (L.base + off) (ds.map pv)) e) :=
    Post.writeV H.I hL (by simp [f]) _ e (.row (setFrom cells off ds)) ⟨f, by simp [length_setFrom, l], hput⟩ (hy _)
  refine ⟨L.block, o, cap, _, he, ?_, P1⟩
  by_cases h0 : ds = []
  · subst h0
    simp only [List.map_nil, putA]
    rw [wr_self hh]
    simp [storeCells]
  · have hp : 0 < ds.length := List.length_pos_iff.2 h0
    have := run_storeCells (P := P) (b := L.block) (off := o) (e := e) (ds.map pv) 0 w c hh (by rw [ho (by omega)]; simp; omega) (fun u hu => by
      simp only [List.mem_map] at hu
      obtain ⟨d, hdm, rfl⟩ := hu
      exact pv_one (hd d hdm))
    rw [if_neg (by simpa using h0), ho (by omega)] at this
    rw [ho (by omega)]
    simpa using this

theorem asPer_rep {L : Loc} {ob : Ob} {w' : Nat} {rows : List (List D)} {cells : List PC} (hp : asPer ob = some (w', rows, cells)) (r : ORep F h β U L ob) : ORep F h β U L (.per w' rows cells) := by
  cases ob with
  | mat op rs =>
    cases op with
    | false =>
      simp only [asPer, Option.some.injEq, Prod.mk.injEq] at hp
      obtain ⟨rfl, rfl, rfl⟩ := hp
      exact per_of_mat r
    | true => simp [asPer] at hp
  | per w2 rs cs =>
    simp only [asPer, Option.some.injEq, Prod.mk.injEq] at hp
    obtain ⟨rfl, rfl, rfl⟩ := hp
    exact r
  | _ => simp [asPer] at hp

include H in
theorem placeP_spec {x : AV} {id v off len : Nat} {rows : List (List D)} {cells : List PC} (hx : placeP O x = some (id, v, rows, cells, off, len)) {u : Value} (r : VRep F w.heap β U x u) :
    ∃ L c e o cap, β id = some (v, L) ∧ ORep F w.heap β U L (.per 1 rows cells) ∧ w.heap[L.block]? = some (.cells c e (0, 0)) ∧ off + len ≤ cells.length ∧ L.base + cells.length ≤ c.size ∧
      u = .slice (some ⟨L.block, o, none⟩) len cap ∧ (0 < len → o = L.base + off) := by
  cases r with
  | own i r v ho hu hv =>
    simp only [placeP] at hx
    obtain ⟨ob, hat, hx⟩ := bnd_eq_some.1 hx
    obtain ⟨⟨w', rs, cs⟩, hp, hx⟩ := bnd_eq_some.1 hx
    obtain ⟨h1, hx⟩ := ite_some.1 hx
    simp only at h1
    subst h1
    simp only [Option.some.injEq, Prod.mk.injEq] at hx
    obtain ⟨rfl, rfl, rfl, rfl, rfl, rfl⟩ := hx
    obtain ⟨L, hL, hr⟩ := H.I.objs i r _ (at_iff.1 hat)
    have hr2 := asPer_rep hp hr
    have hr3 := hr2
    obtain ⟨l0, l, l', hi, ⟨c, e, hh, hs, _⟩, _⟩ := hr3
    exact ⟨L, c, e, L.base, L.cap, hL, hr2, hh, by omega, by omega, by rw [hv L hL, l, Nat.mul_one], fun _ => by omega⟩
  | sub i r off len v ho hu hv =>
    simp only [placeP] at hx
    obtain ⟨ob, hat, hx⟩ := bnd_eq_some.1 hx
    obtain ⟨⟨w', rs, cs⟩, hp, hx⟩ := bnd_eq_some.1 hx
    obtain ⟨⟨h1, hle⟩, hx⟩ := ite_some.1 hx
    simp only at h1 hle
    subst h1
    simp only [Option.some.injEq, Prod.mk.injEq] at hx
    obtain ⟨rfl, rfl, rfl, rfl, rfl, rfl⟩ := hx
    obtain ⟨L, hL, hr⟩ := H.I.objs i r _ (at_iff.1 hat)
    have hr2 := asPer_rep hp hr
    have hr3 := hr2
    obtain ⟨l0, l, l', hi, ⟨c, e, hh, hs, _⟩, _⟩ := hr3
    obtain ⟨h1, o, h2, h3, _⟩ := hv L hL
    exact ⟨L, c, e, o, _, hL, hr2, hh, hle, by omega, h2, fun h0 => h3 (by omega)⟩
  | _ => simp [placeP] at hx

theorem per_clear {L : Loc} {w' : Nat} {rows : List (List D)} {e : TypeId} (hF : ¬ F L.block) : ∀ (n : Nat) (w : World) (cells : List PC) (c : Array Value) (off : Nat), ORep F w.heap β U L (.per w' rows cells) →
    w.heap[L.block]? = some (.cells c e (0, 0)) → off + n ≤ cells.length →
    ORep F (wr w L.block (putA c (L.base + off) (List.replicate n (.slice none 0 0))) e).heap β U L (.per w' rows (setFrom cells off (List.replicate n (.d .nil))))
  | 0, w, cells, c, off, hr, hh, _ => by
    simp only [List.replicate_zero, putA, setFrom]
    rw [wr_self hh]; exact hr
  | n + 1, w, cells, c, off, hr, hh, hl => by
    simp only [List.replicate_succ, putA, setFrom]
    have h1 := per_set (p := .d .nil) (u := .slice none 0 0) hr hh (off := off) (by omega) ⟨.nil, rfl⟩ hF
    have h2 := per_clear hF n (wr w L.block (c.setIfInBounds (L.base + off) (.slice none 0 0)) e) (cells.set off (.d .nil)) (c.setIfInBounds (L.base + off) (.slice none 0 0)) (off + 1) h1 (wr_heap hh) (by simp; omega)
    rw [wr_wr, ← Nat.add_assoc] at h2
    exact h2

include H in
theorem clear_post {x : AV} {id v off len : Nat} {rows : List (List D)} {cells : List PC} (hx : placeP O x = some (id, v, rows, cells, off, len)) {u : Value} (r : VRep F w.heap β U x u) :
    ∃ b o cap w', u = .slice (some ⟨b, o, none⟩) len cap ∧ (storeCells ⟨b, o, none⟩ (List.replicate len (.slice none 0 0)) 0).run P w = .ok () w' ∧ Post n0 M F β U O w ver { val := .undef, upd := [(id, some (v, .per 1 rows (setFrom cells off (List.replicate len (.d .nil)))))] } (.tuple #[]) w' := by
  obtain ⟨L, c, e, o, cap, hL, hr, hh, hle, hsz, he, ho⟩ := placeP_spec H hx r
  have hb : L.block ∈ L.fp := by obtain ⟨_, _, _, _, _, _, h4, _⟩ := hr; simp [h4]
  have hF := (H.I.out id v L hL L.block hb).1
  have P1 : Post n0 M F β U O w ver { val := .undef, upd := [(id, some (v, .per 1 rows (setFrom cells off (List.replicate len (.d .nil)))))] } (.tuple #[]) (wr w L.block (putA c (L.base + off) (List.replicate len (.slice none 0 0))) e) :=
    Post.writeV H.I hL hb _ e _ (per_clear hF len w cells c off hr hh (by omega)) (.undef _)
  refine ⟨L.block, o, cap, _, he, ?_, P1⟩
  by_cases h0 : len = 0
  · subst h0
    simp only [List.replicate_zero, putA]
    rw [wr_self hh]
    simp [storeCells]
  · have hp : 0 < len := by omega
    have := run_storeCells (P := P) (b := L.block) (off := o) (e := e) (List.replicate len (.slice none 0 0)) 0 w c hh (by rw [ho (by omega)]; simp; omega) (fun u hu => by
      rw [List.eq_of_mem_replicate hu]; rfl)
    rw [if_neg (by simpa using h0), ho (by omega)] at this
    rw [ho (by omega)]
    simpa using this

theorem one {args : Array Operand} {x : AV} (R : LRel F w.heap β U [x] (args.toList.map a.eval)) : ∃ o, args = #[o] ∧ VRep F w.heap β U x (a.eval o) := by
  have hl : args.toList.length = 1 := by have := R.1; simpa using this.symm
  obtain ⟨o, ho⟩ := List.length_eq_one_iff.1 hl
  exact ⟨o, by rw [← Array.toArray_toList (xs := args), ho], R.2 0 x _ rfl (by simp [ho])⟩

include hP H

theorem op_builtin {b : Builtin} {args : Array Operand} {tys : Array TypeId} (h : evalOp cx look O ver ⟨dst, .call ⟨.builtin b, args, tys⟩, ty, pos, aft, gd⟩ = some out) :
    Does P ⟨dst, .call ⟨.builtin b, args, tys⟩, ty, pos, aft, gd⟩ a w (Post n0 M F β U O w ver out) := by
  subst hP
  simp only [evalOp] at h
  obtain ⟨xs, hxs, h1⟩ := bnd_eq_some.1 h
  clear h
  have R := args_rep H hxs
  have run : ∀ {v : Value} {w' : World} {s : Sem Value}, builtin b tys ty (args.map fun | .const _ => true | _ => false) (args.map a.eval) = (do pure (.value (← s))) → s.run cx.P w = .ok v w' →
      (execOp a.eval ⟨dst, .call ⟨.builtin b, args, tys⟩, ty, pos, aft, gd⟩).run cx.P w = .ok (.value v) w' := by
    intro v w' s hs hr
    have : execOp a.eval ⟨dst, .call ⟨.builtin b, args, tys⟩, ty, pos, aft, gd⟩ = (do pure (.value (← s))) := by
      simp only [execOp, resolve]
      exact hs
    rw [this, Sem.run_bind, hr]; rfl
  unfold evalBuiltin at h1
  split at h1
  · -- len
    rename_i x
    split at h1
    · rename_i t htys
      have htys' : tys = #[t] := by rw [← Array.toArray_toList (xs := tys), htys]
      have hargs : ∃ o, args = #[o] ∧ VRep F w.heap β U x (a.eval o) := by
        have hl : args.toList.length = 1 := by have := R.1; simpa using this.symm
        obtain ⟨o, ho⟩ := List.length_eq_one_iff.1 hl
        exact ⟨o, by rw [← Array.toArray_toList (xs := args), ho], R.2 0 x _ rfl (by simp [ho])⟩
      obtain ⟨o, rfl, rx⟩ := hargs
      subst htys'
      split at h1
      · rename_i e htk
        split at h1
        · simp at h1
        · rename_i hns
          obtain ⟨n, hn, h2⟩ := bnd_eq_some.1 h1
          have h2 := Option.some.inj h2
          subst h2
          rcases lenC_rep H.I rx hn with ⟨A, c, he, _⟩ | ⟨s, he, _, hxs'⟩
          · refine .inl ⟨_, w, run (s := Builtin.len_ #[t] ty #[a.eval o]) (by simp [builtin]) ?_, Post.pure H.I (.d _ _ (.int _ _))⟩
            simp [Builtin.len_, run_und (tk_slice htk), he, goInt]
          · exact absurd hxs' (hns s)
      · rename_i htk
        split at h1
        · rename_i s
          have h2 := Option.some.inj h1
          subst h2
          have he : a.eval o = .string s := by
            generalize a.eval o = u at rx
            cases rx with | d _ _ hd => cases hd; rfl
          refine .inl ⟨_, w, run (s := Builtin.len_ #[t] ty #[a.eval o]) (by simp [builtin]) ?_, Post.pure H.I (.d _ _ (.int _ _))⟩
          simp [Builtin.len_, run_und (tk_string htk), he, goInt]
        · simp at h1
      · simp at h1
    · simp at h1
  · -- max
    rename_i k x k' y
    have h2 := Option.some.inj h1
    subst h2
    obtain ⟨o, p, rfl, rx, ry⟩ := two R
    have ex := drep_int_eq rx
    have ey := drep_int_eq ry
    refine .inl ⟨_, w, run (s := Builtin.max_ tys ty #[a.eval o, a.eval p]) (by simp [builtin]) ?_, Post.pure H.I (.d _ _ (.int _ _))⟩
    rw [ex, ey]; exact run_max_int2 w tys ty k k' x y
  · -- min
    rename_i k x k' y
    have h2 := Option.some.inj h1
    subst h2
    obtain ⟨o, p, rfl, rx, ry⟩ := two R
    have ex := drep_int_eq rx
    have ey := drep_int_eq ry
    refine .inl ⟨_, w, run (s := Builtin.min_ tys ty #[a.eval o, a.eval p]) (by simp [builtin]) ?_, Post.pure H.I (.d _ _ (.int _ _))⟩
    rw [ex, ey]; exact run_min_int2 w tys ty k k' x y
  · -- append
    rename_i x y
    obtain ⟨o, p, rfl, rx, ry⟩ := two R
    split at h1
    · rename_i t t' htys
      have htys' : tys = #[t, t'] := by rw [← Array.toArray_toList (xs := tys), htys]
      subst htys'
      split at h1
      · rename_i e htk
        split at h1
        rotate_left
        · -- a count of zeros
          unfold grown at h1
          split at h1
          · rename_i K
            split at h1
            · rename_i k htk'
              obtain ⟨⟨hs1, hby, hK0, hKb⟩, h2⟩ := ite_some.1 h1
              obtain ⟨d, hd, h3⟩ := bnd_eq_some.1 h2
              obtain ⟨z, hz, h4⟩ := bnd_eq_some.1 h3
              obtain ⟨zv, hzv, hz⟩ := bnd_eq_some.1 hz
              obtain ⟨hzp, h5⟩ := ite_some.1 h4
              have h5 := Option.some.inj h5
              subst h5
              obtain ⟨inf, zz, hi, hzz, hv⟩ := zer_spec hzv
              have hsi : inf.size = 1 := by simpa [sz, hi] using hs1
              have hbi : inf.bytes ≤ 64 := by simpa [byts, hi] using hby
              have rz : DRep ⟨fun _ => False, fun _ => False⟩ #[] z zz := by
                have r0 := ofValue_rep (F := ⟨fun _ => False, fun _ => False⟩) (h := #[]) (β := fun _ => none) (U := fun _ => True) hv
                cases zv with
                | d x =>
                  simp only [asD, Option.some.injEq] at hz
                  subst hz
                  cases r0 with | d _ _ hd => exact hd
                | _ => simp [asD] at hz
              have ez : zz = pv z := plain_pv rz hzp
              have hcl : zz.cells = #[pv z] := by rw [ez]; cases z <;> first | rfl | simp [plainD] at hzp
              have hnil : a.eval o = .slice none 0 0 := by
                generalize a.eval o = u at rx
                cases rx with | d _ _ hd => cases hd; rfl
              have hint : a.eval p = .int .i64 K := drep_int_eq ry
              have hKn : ((K.toNat : Nat) : Int) = K := by omega
              obtain ⟨v', w', hr, hApp⟩ := run_append0 (P := cx.P) (w := w) (ty := ty) (tk_slice htk) (tk_int htk') hi hzz hcl hsi hbi (K := K.toNat) (by omega) (by omega)
              rw [hKn] at hr
              refine .inl ⟨v', w', run (s := Builtin.append_ #[t, t'] ty #[a.eval o, a.eval p]) (by simp [builtin]) (by rw [hnil, hint]; exact hr), ?_⟩
              have := row_app H (A := none) (cells := []) (more := List.replicate K.toNat z) (olds := []) (id := d * 16) (fun x hx => by simp at hx) hApp (by simp) rfl (fun j d u hd => by simp at hd) (fun j d u hd hu => by
                rw [List.getElem?_replicate] at hd hu
                split at hd
                · rename_i hj
                  rw [if_pos hj] at hu
                  obtain rfl := Option.some.inj hd
                  obtain rfl := Option.some.inj hu
                  exact ⟨plain_row hzp, pv_rep hzp⟩
                · simp at hd)
              simpa using this
            · simp at h1
          · simp at h1
        rename_i hcond
        obtain ⟨rfl, hs1, hby, hz1⟩ := hcond
        have h2 := h1
        clear h1
        obtain ⟨inf, z, hinf, hz, hzs⟩ := zer1_spec hz1
        have hsi : inf.size = 1 := by simpa [sz, hinf] using hs1
        have hbi : inf.bytes ≤ 64 := by simpa [byts, hinf] using hby
        have hund := tk_slice htk
        -- a row grows
        have rowcase : ∀ {A : Option Addr} {len cap : Nat} {cells more : List D} {olds : List Value} {id : Nat}, a.eval o = .slice A len cap → cells.length = len → len ≤ cap → Cells w.heap A olds → olds.length = cells.length →
            (∀ (j : Nat) (d : D) (u : Value), cells[j]? = some d → olds[j]? = some u → rowD d = true ∧ DRep F w.heap d u) →
            elemsA O y = some more → more.all rowD = true → cells.length + more.length ≤ bound → (A = none → more.length ≠ 0 ∧ cap = 0) →
            (∀ x, A = some x → ∃ b o ca ea, x = ⟨b, o, none⟩ ∧ w.heap[b]? = some (.cells ca ea (0, 0)) ∧ o + cap ≤ ca.size) → (∀ x, A = some x → ∃ r L, β id = some (r, L) ∧ x.block ∈ L.fp) →
            Does cx.P ⟨dst, .call ⟨.builtin .append, #[o, p], #[t, t]⟩, ty, pos, aft, gd⟩ a w (Post n0 M F β U O w ver { val := .own id ver, upd := [(id, some (ver, .row (cells ++ more)))] }) := by
          intro A len cap cells more olds id he hcl hlc hC hol hpl hm hmp hbd hA hA2 hold
          obtain ⟨A', c', vs, he', hvl, hvc, hvd⟩ := elemsA_rep H.I ry hm
          have hmp' : ∀ d ∈ more, rowD d = true := by simpa [List.all_eq_true] using hmp
          obtain ⟨v', w', hr, hApp⟩ := run_append (P := cx.P) (ty := ty) hund hinf hz hzs hsi hbi hC hvc (by rw [hol]; exact hcl) (n := more.length) (c := c') hvl hlc (by omega) hA hA2
            (fun u hu => by
              obtain ⟨j, hj, rfl⟩ := List.mem_iff_getElem.1 hu
              have hjm : j < more.length := by omega
              exact rowD_one (hvd j more[j] _ (by simp [hjm]) (by simp [hj])) (hmp' _ (List.getElem_mem hjm)))
          refine .inl ⟨v', w', run (s := Builtin.append_ #[t, t] ty #[a.eval o, a.eval p]) (by simp [builtin]) (by rw [he, he']; exact hr), ?_⟩
          rw [← hcl] at hApp
          exact row_app H hold hApp hvl hol hpl (fun j d u hd hu => ⟨hmp' d (List.mem_of_getElem? hd), hvd j d u hd hu⟩)
        -- a table grows by a row
        have matcase : ∀ {A : Option Addr} {len cap : Nat} {op : Bool} {rows : List (List D)} {inner : List Value} {c : AV} {r0 : List D} {used : List Nat} {id : Nat}, a.eval o = .slice A len cap → rows.length = len → len ≤ cap →
            Cells w.heap A inner → inner.length = rows.length → (∃ ia va, y = .own ia va ∧ at_ O ia va = some (.box [c])) → rowsOf O c = some (r0, used) → rows.length + 1 ≤ bound → (A = none → cap = 0) →
            (∀ x, A = some x → ∃ b o ca ea, x = ⟨b, o, none⟩ ∧ w.heap[b]? = some (.cells ca ea (0, 0)) ∧ o + cap ≤ ca.size) →
            (∀ x, A = some x → ∃ r L, β id = some (r, L) ∧ x.block ∈ L.fp ∧ x.block ∉ inner.flatMap blockOf ∧ ∃ op' rs, O id = some (r, .mat op' rs)) →
            (∀ (i : Nat) (r : List D) (x : Value), rows[i]? = some r → inner[i]? = some x → RowV F w.heap r x) → (inner.flatMap blockOf).Nodup →
            (∀ k ∈ inner.flatMap blockOf, ∃ r L, β id = some (r, L) ∧ k ∈ L.fp ∧ ∃ op' rs, O id = some (r, .mat op' rs)) → (A = none → inner = []) →
            Does cx.P ⟨dst, .call ⟨.builtin .append, #[o, p], #[t, t]⟩, ty, pos, aft, gd⟩ a w
              (Post n0 M F β U O w ver { val := .own id ver, upd := (id, some (ver, .mat op (rows ++ [r0]))) :: used.map fun i => (i, none) }) := by
          intro A len cap op rows inner c r0 used id he hcl hlc hC hin hy hro hbd hA hA2 hold hrv hnd hfp hfree
          obtain ⟨ia, va, rfl, hat⟩ := hy
          generalize heb : a.eval p = yv at ry
          cases ry with
          | own _ _ _ ho hu hv =>
            obtain ⟨L, hL, f, l, l', cs, e2, hh, hs, hx⟩ := H.I.objs ia va _ (at_iff.1 hat)
            have hval := hv L hL
            obtain ⟨u, hcu, ru⟩ := hx 0 c rfl
            have hl1 : L.len = 1 := by simpa using l
            have hone : u.oneCell' = true := by
              rcases rowsOf_spec H hro ru with ⟨_, _, e0⟩ | ⟨_, _, _, _, _, _, _, _, _, _, e0⟩ <;> rw [e0] <;> rfl
            have hnew : Cells w.heap (some ⟨L.block, L.base, none⟩) [u] := by
              intro j v hj
              cases j with
              | zero => simp at hj; subst hj; exact ⟨L.block, L.base, rfl, (cellAt_of hh).trans hcu⟩
              | succ j => simp at hj
            obtain ⟨v', w', hr, hApp⟩ := run_append (P := cx.P) (ty := ty) hund hinf hz hzs hsi hbi hC hnew (by omega) (n := 1) (c := L.cap) (by simp) hlc (by omega) (fun h => ⟨by omega, hA h⟩) hA2 (fun v hv => by simp at hv; subst hv; exact hone)
            refine .inl ⟨v', w', run (s := Builtin.append_ #[t, t] ty #[a.eval o, a.eval p]) (by simp [builtin]) (by rw [he, heb, hval, hl1]; exact hr), ?_⟩
            rw [← hcl] at hApp
            exact mat_app H hold hin hrv hnd hfp ru hro hApp (fun k hk => by
              by_cases hki : k = id
              · right
                cases A with
                | none => rfl
                | some x =>
                  obtain ⟨r, L2, _, _, _, op', rs, hO⟩ := hold x rfl
                  rcases rowsOf_spec H hro ru with ⟨_, hus, _⟩ | ⟨j, va2, La, _, hus, hO2, _⟩
                  · rw [hus] at hk; simp at hk
                  · rw [hus] at hk
                    simp only [List.mem_singleton] at hk
                    rw [← hk, hki] at hO2
                    rw [hO] at hO2; simp at hO2
              · exact .inl hki) hfree
        split at h2
        · rename_i id v
          split at h2
          · rename_i cells hat
            obtain ⟨more, hm, h3⟩ := bnd_eq_some.1 h2
            obtain ⟨⟨hmp, hbd⟩, h4⟩ := ite_some.1 h3
            have h4 := Option.some.inj h4
            subst h4
            generalize heb : a.eval o = xv at rx
            cases rx with
            | own _ _ _ ho hu hv =>
              obtain ⟨L, hL, f, l, hB⟩ := H.I.objs id v _ (at_iff.1 hat)
              have hval := hv L hL
              obtain ⟨olds, q0, q1, q2⟩ := row_vals hB
              have hB' := hB
              obtain ⟨ca, ea, hh, hsz, hlc, _⟩ := hB
              exact rowcase (heb.trans hval) l.symm (by omega) q1 q0 q2 hm hmp hbd (fun h => by simp at h) (fun x hx => by
                simp only [Option.some.injEq] at hx; subst hx
                exact ⟨_, _, ca, ea, rfl, hh, hsz⟩) (fun x hx => by
                simp only [Option.some.injEq] at hx; subst hx
                exact ⟨v, L, hL, by simp [f]⟩)
          · rename_i op rows hat
            · obtain ⟨⟨r0, used⟩, htr, h3⟩ := bnd_eq_some.1 h2
              obtain ⟨ia, va, c, rfl, hatb, hro⟩ := tableRow_spec htr
              · obtain ⟨hbd, h4⟩ := ite_some.1 h3
                have h4 := Option.some.inj h4
                subst h4
                generalize heb : a.eval o = xv at rx
                cases rx with
                | own _ _ _ ho hu hv =>
                  obtain ⟨L, hL, l, l', ca, ea, inner, hh, hs, hi', g1, g2, g3, g4, g5⟩ := H.I.objs id v _ (at_iff.1 hat)
                  have hval := hv L hL
                  have g5' := g5
                  rw [g4, List.nodup_cons] at g5
                  refine matcase (heb.trans hval) l.symm l' (fun j u hj => ⟨L.block, L.base, rfl, (cellAt_of hh).trans (g1 j u hj)⟩) hi' ⟨ia, va, rfl, hatb⟩ hro hbd (fun h => by simp at h) (fun x hx => ?_) (fun x hx => ?_) g2 g5.2 (fun k hk => ?_) (fun h => by simp at h)
                  · simp only [Option.some.injEq] at hx; subst hx
                    exact ⟨_, _, ca, ea, rfl, hh, hs⟩
                  · simp only [Option.some.injEq] at hx; subst hx
                    exact ⟨v, L, hL, by simp [g4], g5.1, op, rows, at_iff.1 hat⟩
                  · exact ⟨v, L, hL, by rw [g4]; exact List.mem_cons_of_mem _ hk, op, rows, at_iff.1 hat⟩
          · simp at h2
        · have hnil : a.eval o = .slice none 0 0 := by
            generalize a.eval o = u at rx
            cases rx with | d _ _ hd => cases hd; rfl
          obtain ⟨d, hd, h3⟩ := bnd_eq_some.1 h2
          split at h3
          · · obtain ⟨⟨r0, used⟩, htr, h4⟩ := bnd_eq_some.1 h3
              obtain ⟨ia, va, c, rfl, hatb, hro⟩ := tableRow_spec htr
              · have h4 := Option.some.inj h4
                subst h4
                have := matcase (op := true) (rows := []) (inner := []) (id := d * 16) hnil rfl (Nat.le_refl _) (fun j u hj => by simp at hj) rfl ⟨ia, va, rfl, hatb⟩ hro (by simp [bound]) (fun _ => rfl) (fun x hx => by simp at hx) (fun x hx => by simp at hx)
                  (fun i r x hr => by simp at hr) (by simp) (fun k hk => by simp at hk) (fun _ => rfl)
                simpa using this
          · obtain ⟨more, hm, h4⟩ := bnd_eq_some.1 h3
            obtain ⟨⟨hmp, hpos, hbd⟩, h5⟩ := ite_some.1 h4
            have h5 := Option.some.inj h5
            subst h5
            have := rowcase (cells := []) (olds := []) (id := d * 16) hnil rfl (Nat.le_refl _) (fun j u hj => by simp at hj) rfl (fun j d u hd => by simp at hd) hm (by rw [List.all_eq_true] at hmp ⊢; exact fun x hx => plain_row (hmp x hx)) (by simpa using hbd) (fun _ => ⟨by omega, rfl⟩) (fun x hx => by simp at hx) (fun x hx => by simp at hx)
            simpa using this
        · simp at h2
      · simp at h1
    · simp at h1
  · -- cap
    obtain ⟨o, rfl, rx⟩ := one R
    split at h1
    · rename_i t htys
      have htys' : tys = #[t] := by rw [← Array.toArray_toList (xs := tys), htys]
      subst htys'
      split at h1
      · rename_i e htk
        have h2 := Option.some.inj h1
        subst h2
        have hnil : a.eval o = .slice none 0 0 := by
          generalize a.eval o = u at rx
          cases rx with | d _ _ hd => cases hd; rfl
        refine .inl ⟨_, w, run (s := Builtin.cap_ #[t] ty #[a.eval o]) (by simp [builtin]) ?_, Post.pure H.I (.d _ _ (.int _ _))⟩
        simp [Builtin.cap_, run_und (tk_slice htk), hnil, goInt]
      · simp at h1
    · simp at h1
  · -- copy
    rename_i x y
    obtain ⟨o, p, rfl, rx, ry⟩ := two R
    split at h1
    · rename_i t t' htys
      have htys' : tys = #[t, t'] := by rw [← Array.toArray_toList (xs := tys), htys]
      subst htys'
      split at h1
      · rename_i e htk
        obtain ⟨hs1, h2⟩ := ite_some.1 h1
        clear h1
        obtain ⟨⟨id, v, cells, off, len⟩, hpl, h3⟩ := bnd_eq_some.1 h2
        obtain ⟨more, hm, h4⟩ := bnd_eq_some.1 h3
        obtain ⟨hmp, h5⟩ := ite_some.1 h4
        have h5 := Option.some.inj h5
        subst h5
        obtain ⟨A', c', vs, he', hvl, hvc, hvd⟩ := elemsA_rep H.I ry hm
        have hmp' : ∀ d ∈ more, plainD d = true := by simpa [List.all_eq_true] using hmp
        have hvs : vs = more.map pv := plain_vals hvl hvd hmp'
        subst hvs
        have hund := tk_slice htk
        obtain ⟨i, hi⟩ : ∃ i, cx.P.info? e = some i := by
          cases hi : cx.P.info? e with
          | some i => exact ⟨i, rfl⟩
          | none => exfalso; simp [sz, hi] at hs1
        have hfc : (Builtin.firstCells 1 (min more.length len) (.slice A' more.length c')).run cx.P w = .ok ((more.take (min more.length len)).map pv).toArray w :=
          run_first (fun j u hu => hvc j u (by
            have hj : j < min more.length len := by have := (List.getElem?_eq_some_iff.1 hu).1; simp at this; omega
            rw [List.map_take, List.getElem?_take, if_pos hj] at hu
            exact hu)) (by simp)
        obtain ⟨b, o1, cap, w', he, hst, hpost⟩ := put_post (P := cx.P) (ds := more.take (min more.length len)) H hpl rx (fun d hd => hmp' d (List.mem_of_mem_take hd)) (by simp; omega) (y := .d (.int .i64 (min more.length len : Nat))) (val := goInt (min more.length len : Nat)) (fun h => .d _ _ (.int _ _))
        refine .inl ⟨_, w', run (s := Builtin.copy_ #[t, t'] ty #[a.eval o, a.eval p]) (by simp [builtin]) ?_, hpost⟩
        have hmin : Nat.min more.length len = min more.length len := rfl
        rw [List.map_take] at hst
        simp [Builtin.copy_, run_und hund, he, he', Builtin.lenOf, run_sizeOf hi, hs1, hmin, hfc, hst]
      · simp at h1
    · simp at h1
  · -- clear
    rename_i x
    obtain ⟨o, rfl, rx⟩ := one R
    split at h1
    · rename_i t htys
      have htys' : tys = #[t] := by rw [← Array.toArray_toList (xs := tys), htys]
      subst htys'
      split at h1
      · rename_i e htk
        obtain ⟨hs1, h2⟩ := ite_some.1 h1
        clear h1
        by_cases hnz : zer cx.P e = some (.d .nil)
        · rw [hnz] at h2
          simp only [if_true] at h2
          obtain ⟨⟨id, v, rows, cells, off, len⟩, hpl, h3⟩ := bnd_eq_some.1 h2
          have h5 := Option.some.inj h3
          subst h5
          obtain ⟨inf, zz, hi, hzz, hv⟩ := zer_spec hnz
          have hund := tk_slice htk
          have r0 := ofValue_rep (F := ⟨fun _ => False, fun _ => False⟩) (h := #[]) (β := fun _ => none) (U := fun _ => True) hv
          have ez : zz = .slice none 0 0 := by cases r0 with | d _ _ hd => cases hd; rfl
          obtain ⟨b, o1, cap, w', he, hst, hpost⟩ := clear_post (P := cx.P) H hpl rx
          refine .inl ⟨_, w', run (s := Builtin.clear_ #[t] ty #[a.eval o]) (by simp [builtin]) ?_, hpost⟩
          have hzc : (Builtin.zeroCells zz.cells len).toList = List.replicate len (.slice none 0 0) := by
            rw [ez]
            have : (Value.slice none 0 0).cells = #[.slice none 0 0] := rfl
            rw [this]
            apply List.ext_getElem
            · simp [Builtin.zeroCells]
            · intro j h1 h2
              simp [Builtin.zeroCells, Nat.mod_one]
          cases len with
          | zero =>
            simp [Builtin.clear_, run_und hund, he]
            simpa [storeCells] using hst
          | succ n =>
            simp [Builtin.clear_, run_und hund, he, zeroValue, typeInfo, hi, hzz, hzc, hst]
        split at h2
        · rename_i hm
          exact absurd hm hnz
        simp only [Bool.false_eq_true, if_false] at h2
        obtain ⟨⟨id, v, cells, off, len⟩, hpl, h3⟩ := bnd_eq_some.1 h2
        obtain ⟨z, hz, h4⟩ := bnd_eq_some.1 h3
        obtain ⟨zv, hzv, hz⟩ := bnd_eq_some.1 hz
        obtain ⟨hzp, h5⟩ := ite_some.1 h4
        have h5 := Option.some.inj h5
        subst h5
        obtain ⟨inf, zz, hi, hzz, hv⟩ := zer_spec hzv
        have hund := tk_slice htk
        have rz : DRep ⟨fun _ => False, fun _ => False⟩ #[] z zz := by
          have r0 := ofValue_rep (F := ⟨fun _ => False, fun _ => False⟩) (h := #[]) (β := fun _ => none) (U := fun _ => True) hv
          cases zv with
          | d x =>
            simp only [asD, Option.some.injEq] at hz
            subst hz
            cases r0 with | d _ _ hd => exact hd
          | _ => simp [asD] at hz
        have ez : zz = pv z := plain_pv rz hzp
        obtain ⟨b, o1, cap, w', he, hst, hpost⟩ := put_post (P := cx.P) (ds := List.replicate len z) H hpl rx (fun d hd => by rw [List.eq_of_mem_replicate hd]; exact hzp) (by simp) (y := .undef) (val := .tuple #[]) (fun h => .undef _)
        refine .inl ⟨_, w', run (s := Builtin.clear_ #[t] ty #[a.eval o]) (by simp [builtin]) ?_, hpost⟩
        have hzc : (Builtin.zeroCells zz.cells len).toList = List.replicate len (pv z) := by
          rw [ez]
          have : (pv z).cells = #[pv z] := by cases z <;> first | rfl | simp [plainD] at hzp
          rw [this]
          apply List.ext_getElem
          · simp [Builtin.zeroCells]
          · intro j h1 h2
            simp [Builtin.zeroCells, Nat.mod_one]
        rw [List.map_replicate] at hst
        cases len with
        | zero =>
          simp [Builtin.clear_, run_und hund, he]
          simpa [storeCells] using hst
        | succ n =>
          simp [Builtin.clear_, run_und hund, he, zeroValue, typeInfo, hi, hzz, hzc, hst]
      · simp at h1
    · simp at h1
  · simp at h1
end
end Go.Proofs.YtnfhglplafmfiaaGreatE

namespace Go.Proofs.YtnfhglplafmfiaaGreatE
set_option linter.unusedSectionVars false
set_option linter.unusedSimpArgs false
set_option linter.unusedVariables false
open Go
set_option linter.unusedSectionVars false

section
variable {P : Program} {n0 : Nat} {M : Nat → Prop} {F F' : Frz} {β : Beta} {U : Nat → Prop} {O O' : Nat → Option (Nat × Ob)} {look : Nat → Option AV} {a : Act} {w : World} {ver : Nat} {h : Heap}

theorem rowB_drep (hFF : ∀ b, F b → F' b) (hPP : ∀ b, F.p b → F'.p b) {b o cap : Nat} {cells : List D} (hB : RowB F h b o cap cells) (hF : F' b) {len off o' c : Nat} (hl : off + len ≤ cells.length) (ho : off < cap → o' = o + off) (hc : len ≤ c) :
    DRep F' h (.sl 1 ((cells.drop off).take len)) (.slice (some ⟨b, o', none⟩) len c) := by
  obtain ⟨A, c', vs, e, e1, e2, e3⟩ := hB.elems (len := len) (off := off) (o' := o') (c := c) hl ho
  have hlen : ((cells.drop off).take len).length = len := by simp; omega
  simp only [Value.slice.injEq] at e
  obtain ⟨rfl, _, rfl⟩ := e
  refine .sl 1 _ _ _ _ vs (by rw [hlen]; simp) hc (by omega) (fun j u hu => ?_) (fun j y u hy hu => (e3 j y u hy hu).ext hFF hPP (fun _ _ => rfl))
  obtain ⟨b', off', hA, hcell⟩ := e2 j u hu
  simp only [Option.some.injEq, Addr.mk.injEq] at hA
  obtain ⟨rfl, rfl, _⟩ := hA
  exact ⟨_, _, rfl, hF, hcell⟩

theorem rowB_whole (hFF : ∀ b, F b → F' b) (hPP : ∀ b, F.p b → F'.p b) {b o cap : Nat} {cells : List D} (hB : RowB F h b o cap cells) (hF : F' b) : DRep F' h (.sl 1 cells) (.slice (some ⟨b, o, none⟩) cells.length cap) := by
  have hlc : cells.length ≤ cap := by obtain ⟨_, _, _, _, h3, _⟩ := hB; exact h3
  have := rowB_drep (F' := F') hFF hPP hB hF (len := cells.length) (off := 0) (o' := o) (c := cap) (by omega) (fun _ => rfl) hlc
  simpa using this

theorem rowV_drep (hFF : ∀ b, F b → F' b) (hPP : ∀ b, F.p b → F'.p b) {r : List D} {x : Value} (hr : RowV F h r x) (hF : ∀ b ∈ blockOf x, F' b) : DRep F' h (.sl 1 r) x := by
  rcases hr with ⟨rfl, rfl⟩ | ⟨b, o, cap, rfl, hB⟩
  · exact .sl 1 [] none 0 0 [] rfl (Nat.le_refl _) rfl (fun i v hv => by simp at hv) (fun i x v hx _ => by simp at hx)
  · exact rowB_whole hFF hPP hB (hF b (by simp [blockOf]))

theorem view_rep (I : Inv n0 M F β U O h) (hFF : ∀ b, F b → F' b) (hPP : ∀ b, F.p b → F'.p b) (hO : ∀ id v ob, O' id = some (v, ob) → O id = some (v, ob) ∧ ∀ L, β id = some (v, L) → ∀ b ∈ L.fp, F' b) :
    ∀ (n : Nat) (x : AV) (v : Value) (d : D), VRep F h β U x v → view O' n x = some d → DRep F' h d v := by
  intro n
  induction n with
  | zero => intro x v d _ hd; simp [view] at hd
  | succ n ih =>
    have list : ∀ {xs : List AV} {ds : List D}, mapO (view O' n) xs = some ds → ∀ (us : List Value), (∀ (i : Nat) (x : AV) (u : Value), xs[i]? = some x → us[i]? = some u → VRep F h β U x u) →
        xs.length = ds.length ∧ ∀ (i : Nat) (y : D) (u : Value), ds[i]? = some y → us[i]? = some u → DRep F' h y u := by
      intro xs ds hm us hr
      obtain ⟨k1, k2⟩ := mapO_spec hm
      refine ⟨k1, fun i y u hy hu => ?_⟩
      obtain ⟨x, hx, hf⟩ := mapO_get hm hy
      exact ih x u y (hr i x u hx hu) hf
    intro x v d r hd
    cases r with
    | undef v => simp only [view, Option.some.injEq] at hd; subst hd; exact .undef v
    | d x v hx => simp only [view, Option.some.injEq] at hd; subst hd; exact hx.ext hFF hPP (fun _ _ => rfl)
    | own id r v ho hu hv =>
      simp only [view] at hd
      split at hd
      · rename_i cells hat
        obtain ⟨hO1, hO2⟩ := hO _ _ _ (at_iff.1 hat)
        obtain ⟨L, hL, f, l, l', c, e, hh, hs, hx⟩ := I.objs id r _ hO1
        obtain ⟨ds, hds, hd⟩ := bnd_eq_some.1 hd
        simp only [Option.some.injEq] at hd; subst hd
        rw [hv L hL]
        let us : List Value := (List.range cells.length).map fun j => c.getD (L.base + j) undef
        have hus : ∀ (j : Nat) (u : Value), us[j]? = some u → j < cells.length ∧ c[L.base + j]? = some u := by
          intro j u hu
          simp only [us, List.getElem?_map, Option.map_eq_some_iff] at hu
          obtain ⟨k, hk, rfl⟩ := hu
          have hjn : j < cells.length := by have := (List.getElem?_eq_some_iff.1 hk).1; simpa using this
          have : k = j := by simpa [hjn] using hk.symm
          subst this
          have : L.base + k < c.size := by omega
          exact ⟨hjn, by simp [Array.getD, this]⟩
        obtain ⟨k1, k2⟩ := list hds us (fun i x u hx' hu => by
          obtain ⟨hi, hcu⟩ := hus i u hu
          obtain ⟨u', hu', hr⟩ := hx i x hx'
          have : u = u' := by rw [hu'] at hcu; exact (Option.some.inj hcu).symm
          subst this; exact hr)
        refine .sl 1 ds _ _ _ us (by rw [← k1, l, Nat.mul_one]) l' (by simp [us, ← k1]) (fun j u hu => ?_) k2
        obtain ⟨hi, hcu⟩ := hus j u hu
        exact ⟨_, _, rfl, hO2 L hL _ (by simp [f]), (cellAt_of hh).trans hcu⟩
      · rename_i cells hat
        obtain ⟨hO1, hO2⟩ := hO _ _ _ (at_iff.1 hat)
        obtain ⟨L, hL, f, l, hB⟩ := I.objs id r _ hO1
        simp only [Option.some.injEq] at hd; subst hd
        rw [hv L hL, l]
        exact rowB_whole hFF hPP hB (hO2 L hL _ (by simp [f]))
      · rename_i op rows hat
        obtain ⟨hO1, hO2⟩ := hO _ _ _ (at_iff.1 hat)
        obtain ⟨L, hL, l, l', c, e, inner, hh, hs, hi', g1, g2, g3, g4, g5⟩ := I.objs id r _ hO1
        simp only [Option.some.injEq] at hd; subst hd
        rw [hv L hL]
        refine .sl 1 _ _ _ _ inner (by simp [l]) l' (by simp [hi']) (fun j u hu => ⟨L.block, L.base, rfl, hO2 L hL _ (by simp [g4]), (cellAt_of hh).trans (g1 j u hu)⟩) fun j y u hy hu => ?_
        simp only [List.getElem?_map, Option.map_eq_some_iff] at hy
        obtain ⟨row, hrow, rfl⟩ := hy
        refine rowV_drep hFF hPP (g2 j row u hrow hu) fun b hb => hO2 L hL b ?_
        rw [g4]
        exact List.mem_cons_of_mem _ (List.mem_flatMap.2 ⟨u, List.mem_of_getElem? hu, hb⟩)
      · rename_i w' rows cells hat
        obtain ⟨hO1, hO2⟩ := hO _ _ _ (at_iff.1 hat)
        obtain ⟨L, hL, l0, l, l', hi2, ⟨c, e, hh, hs, g1⟩, g2, g4, g5⟩ := I.objs id r _ hO1
        obtain ⟨ds, hds, hd⟩ := bnd_eq_some.1 hd
        simp only [Option.some.injEq] at hd; subst hd
        rw [hv L hL]
        obtain ⟨k1, k2⟩ := mapO_spec hds
        have hle : L.len * w' ≤ L.cap * w' := Nat.mul_le_mul_right _ l'
        let us : List Value := (List.range cells.length).map fun j => c.getD (L.base + j) undef
        have hus : ∀ (j : Nat) (u : Value), us[j]? = some u → j < cells.length ∧ c[L.base + j]? = some u := by
          intro j u hu
          simp only [us, List.getElem?_map, Option.map_eq_some_iff] at hu
          obtain ⟨k, hk, rfl⟩ := hu
          have hjn : j < cells.length := by have := (List.getElem?_eq_some_iff.1 hk).1; simpa using this
          have : k = j := by simpa [hjn] using hk.symm
          subst this
          have : L.base + k < c.size := by omega
          exact ⟨hjn, by simp [Array.getD, this]⟩
        refine .sl w' ds _ _ _ us (by rw [← k1, l]) l' (by simp [us, ← k1]) (fun j u hu => ?_) (fun j y u hy hu => ?_)
        · obtain ⟨hj, hc⟩ := hus j u hu
          exact ⟨L.block, L.base, rfl, hO2 L hL _ (by simp [g4]), (cellAt_of hh).trans hc⟩
        · obtain ⟨hj, hc⟩ := hus j u hu
          obtain ⟨p, hp, hf⟩ := mapO_get hds hy
          obtain ⟨u', hu', hr⟩ := g1 j p hp
          have : u = u' := by rw [hu'] at hc; exact (Option.some.inj hc).symm
          subst this
          cases p with
          | d x =>
            simp only [pcD, Option.some.injEq] at hf
            subst hf
            exact hr.1.ext hFF hPP (fun _ _ => rfl)
          | r k =>
            simp only [pcD] at hf
            obtain ⟨row, hrow, hf⟩ := bnd_eq_some.1 hf
            simp only [Option.some.injEq] at hf
            subst hf
            refine rowV_drep hFF hPP (g2 k row u hrow hr) fun b hb => hO2 L hL b ?_
            rw [g4]
            exact List.mem_cons_of_mem _ (List.mem_flatMap.2 ⟨u, List.mem_of_getElem? hr, hb⟩)
      · simp at hd
    | sub id r off len v ho hu hv =>
      simp only [view] at hd
      split at hd
      · rename_i cells hat
        obtain ⟨hO1, hO2⟩ := hO _ _ _ (at_iff.1 hat)
        obtain ⟨L, hL, f, l, hB⟩ := I.objs id r _ hO1
        simp only [Option.some.injEq] at hd; subst hd
        obtain ⟨h1, o, h2, h3, _⟩ := hv L hL
        rw [h2]
        have hlc : cells.length ≤ L.cap := by obtain ⟨_, _, _, _, h3, _⟩ := hB; exact h3
        exact rowB_drep hFF hPP hB (hO2 L hL _ (by simp [f])) (by omega) h3 (by omega)
      · simp at hd
    | ptr id r off v ho hu hv =>
      simp only [view] at hd
      split at hd
      · rename_i cells hat
        obtain ⟨hO1, hO2⟩ := hO _ _ _ (at_iff.1 hat)
        obtain ⟨L, hL, f, l, l', c, e, hh, hs, hx⟩ := I.objs id r _ hO1
        obtain ⟨ds, hds, hd⟩ := bnd_eq_some.1 hd
        simp only [Option.some.injEq] at hd; subst hd
        rw [hv L hL]
        have hsz : ∀ j, j < cells.length - off → L.base + off + j < c.size := fun j hj => by omega
        let us : List Value := (List.range (cells.length - off)).map fun j => c.getD (L.base + off + j) undef
        have hus : ∀ (j : Nat) (u : Value), us[j]? = some u → j < cells.length - off ∧ c[L.base + off + j]? = some u := by
          intro j u hu
          simp only [us, List.getElem?_map, Option.map_eq_some_iff] at hu
          obtain ⟨k, hk, rfl⟩ := hu
          have hjn : j < cells.length - off := by have := (List.getElem?_eq_some_iff.1 hk).1; simpa using this
          have : k = j := by simpa [hjn] using hk.symm
          subst this
          have := hsz k hjn
          exact ⟨hjn, by simp [Array.getD, this]⟩
        obtain ⟨k1, k2⟩ := list hds us (fun i x u hx' hu => by
          obtain ⟨hi, hcu⟩ := hus i u hu
          rw [List.getElem?_drop] at hx'
          obtain ⟨u', hu', hr⟩ := hx (off + i) x hx'
          have : u = u' := by
            rw [show L.base + off + i = L.base + (off + i) by omega, hu'] at hcu
            exact (Option.some.inj hcu).symm
          subst this; exact hr)
        refine .cellp ds L.block (L.base + off) us (by simp [us, ← k1]) (fun j u hu => ?_) k2
        obtain ⟨hi, hcu⟩ := hus j u hu
        exact ⟨_, _, rfl, hO2 L hL _ (by simp [f]), (cellAt_of hh).trans hcu⟩
      · rename_i w' rows cells hat
        obtain ⟨hO1, hO2⟩ := hO _ _ _ (at_iff.1 hat)
        obtain ⟨L, hL, l0, l, l', hi2, ⟨c, e, hh, hs, g1⟩, g2, g4, g5⟩ := I.objs id r _ hO1
        obtain ⟨ds, hds, hd⟩ := bnd_eq_some.1 hd
        simp only [Option.some.injEq] at hd; subst hd
        rw [hv L hL]
        obtain ⟨k1, k2⟩ := mapO_spec hds
        have hle : L.len * w' ≤ L.cap * w' := Nat.mul_le_mul_right _ l'
        rw [List.length_drop] at k1
        let us : List Value := (List.range (cells.length - off)).map fun j => c.getD (L.base + off + j) undef
        have hus : ∀ (j : Nat) (u : Value), us[j]? = some u → j < cells.length - off ∧ c[L.base + off + j]? = some u := by
          intro j u hu
          simp only [us, List.getElem?_map, Option.map_eq_some_iff] at hu
          obtain ⟨k, hk, rfl⟩ := hu
          have hjn : j < cells.length - off := by have := (List.getElem?_eq_some_iff.1 hk).1; simpa using this
          have : k = j := by simpa [hjn] using hk.symm
          subst this
          have : L.base + off + k < c.size := by omega
          exact ⟨hjn, by simp [Array.getD, this]⟩
        refine .cellp ds L.block (L.base + off) us (by simp [us, ← k1]) (fun j u hu => ?_) (fun j y u hy hu => ?_)
        · obtain ⟨hi, hcu⟩ := hus j u hu
          exact ⟨_, _, rfl, hO2 L hL _ (by simp [g4]), (cellAt_of hh).trans hcu⟩
        · obtain ⟨hj, hc⟩ := hus j u hu
          obtain ⟨p, hp, hf⟩ := mapO_get hds hy
          rw [List.getElem?_drop] at hp
          obtain ⟨u', hu', hr⟩ := g1 (off + j) p hp
          have : u = u' := by
            rw [show L.base + off + j = L.base + (off + j) by omega, hu'] at hc
            exact (Option.some.inj hc).symm
          subst this
          cases p with
          | d x =>
            simp only [pcD, Option.some.injEq] at hf
            subst hf
            exact hr.1.ext hFF hPP (fun _ _ => rfl)
          | r k =>
            simp only [pcD] at hf
            obtain ⟨row, hrow, hf⟩ := bnd_eq_some.1 hf
            simp only [Option.some.injEq] at hf
            subst hf
            refine rowV_drep hFF hPP (g2 k row u hrow hr) fun b hb => hO2 L hL b ?_
            rw [g4]
            exact List.mem_cons_of_mem _ (List.mem_flatMap.2 ⟨u, List.mem_of_getElem? hr, hb⟩)
      · simp at hd
    | inn id r i v ho hu hv =>
      simp only [view] at hd
      split at hd
      · rename_i op rows hat
        obtain ⟨hO1, hO2⟩ := hO _ _ _ (at_iff.1 hat)
        obtain ⟨row, hrow, hd⟩ := bnd_eq_some.1 hd
        simp only [Option.some.injEq] at hd; subst hd
        obtain ⟨L, hL, l, l', c, e, inner, hh, hs, hi', g1, g2, g3, g4, g5⟩ := I.objs id r _ hO1
        have hin := hv L hL
        cases op with
        | true => rw [g3] at hin; simp at hin
        | false =>
          rw [g3] at hin
          simp only [Bool.false_eq_true, if_false] at hin
          refine rowV_drep hFF hPP (g2 i row v hrow hin) fun b hb => hO2 L hL b ?_
          rw [g4]
          exact List.mem_cons_of_mem _ (List.mem_flatMap.2 ⟨v, List.mem_of_getElem? hin, hb⟩)
      · rename_i w' rows cells hat
        obtain ⟨hO1, hO2⟩ := hO _ _ _ (at_iff.1 hat)
        obtain ⟨row, hrow, hd⟩ := bnd_eq_some.1 hd
        simp only [Option.some.injEq] at hd; subst hd
        obtain ⟨L, hL, l0, l, l', hi2, _, g2, g4, g5⟩ := I.objs id r _ hO1
        refine rowV_drep hFF hPP (g2 i row v hrow (hv L hL)) fun b hb => hO2 L hL b ?_
        rw [g4]
        exact List.mem_cons_of_mem _ (List.mem_flatMap.2 ⟨v, List.mem_of_getElem? (hv L hL), hb⟩)
      · simp at hd
    | innp => simp [view] at hd
    | agg cells vs hl hr =>
      simp only [view] at hd
      obtain ⟨ds, hds, hd⟩ := bnd_eq_some.1 hd
      simp only [Option.some.injEq] at hd; subst hd
      obtain ⟨k1, k2⟩ := list hds vs.toList (fun i x u hx hu => hr i x u hx (by simpa using hu))
      exact .agg _ _ (by omega) fun i x u hx hu => k2 i x u hx (by simpa using hu)
    | tuple => simp [view] at hd
    | clo f p q vp vq hp hq hrp hrq =>
      simp only [view] at hd
      obtain ⟨ds, hds, hd⟩ := bnd_eq_some.1 hd
      obtain ⟨es, hes, hd⟩ := bnd_eq_some.1 hd
      simp only [Option.some.injEq] at hd; subst hd
      obtain ⟨k1, k2⟩ := list hds vp.toList (fun i x u hx hu => hrp i x u hx (by simpa using hu))
      obtain ⟨j1, j2⟩ := list hes vq.toList (fun i x u hx hu => hrq i x u hx (by simpa using hu))
      exact .clo f _ _ _ _ (by omega) (by omega) (fun i x u hx hu => k2 i x u hx (by simpa using hu)) fun i x u hx hu => j2 i x u hx (by simpa using hu)

theorem ofD_rep {d : D} {v : Value} (r : DRep F h d v) : VRep F h β U (ofD d) v := by
  cases r with
  | undef v => exact .undef v
  | agg cells vs hl hr =>
    refine .agg _ _ (by simpa using hl) fun i x u hx hu => ?_
    simp only [List.getElem?_map, Option.map_eq_some_iff] at hx
    obtain ⟨y, hy, rfl⟩ := hx
    exact .d _ _ (hr i y u hy hu)
  | int k n => exact .d _ _ (.int k n)
  | bool b => exact .d _ _ (.bool b)
  | str s => exact .d _ _ (.str s)
  | nil => exact .d _ _ .nil
  | sl s cells A len cap vs a b c d e => exact .d _ _ (.sl s cells A len cap vs a b c d e)
  | cellp cells b off vs c d e => exact .d _ _ (.cellp cells b off vs c d e)
  | clo f a b va vb c d e f => exact .d _ _ (.clo _ a b va vb c d e f)
  | pin cells A len cap vs c d e f g => exact .d _ _ (.pin cells A len cap vs c d e f g)
end

def lentB (Ls : List Loc) : Beta := fun id => if 100000 ≤ id then (Ls[id - 100000]?).map (fun L => (0, L)) else none
def lentM (Ls : List Loc) (b : Nat) : Prop := ∃ L ∈ Ls, b ∈ L.fp
def lentO (lent : List Ob) : Nat → Option (Nat × Ob) := fun id => if 100000 ≤ id then (lent[id - 100000]?).map (fun o => (0, o)) else none
def resO (r : CRes) : Nat → Option (Nat × Ob) := fun id => if 100000 ≤ id then ((r.lent[id - 100000]?).join).map (fun o => (0, o)) else (r.obs[id]?).map (fun o => (0, o))

/-- Blocks that nobody writes to for good, alone. -/
def Frz.good (F : Frz) : Frz := ⟨F.p, F.p⟩

/-- What a call promises: Z are the blocks that are never written to from now on. -/
def Good (P : Program) (k : FuncId) (args : List AV) (lent : List Ob) (r : CRes) : Prop :=
  ∀ (w : World) (F : Frz) (vals : Array Value) (Ls : List Loc), Ls.length = lent.length →
    Inv w.heap.size (lentM Ls) F (lentB Ls) (· = 0) (lentO lent) w.heap → LRel F w.heap (lentB Ls) (· = 0) args vals.toList →
    Calls P k vals w fun e w' => ∃ val β' Z, e = .returned val ∧ Stp w.heap.size (lentM Ls) w w' ∧ (∀ b, F.p b → Z b) ∧ (∀ b, Z b → F.p b ∨ w.heap.size ≤ b) ∧ VRep ⟨Z, Z⟩ w'.heap β' (· = 0) r.val val ∧
      Inv w.heap.size (lentM Ls) ⟨Z, Z⟩ β' (· = 0) (resO r) w'.heap ∧ ∀ i L, 100000 ≤ i → β' i = some (0, L) → ∃ L0, lentB Ls i = some (0, L0) ∧ L0.same L

def CallSound (P : Program) (call : FuncId → List AV → List Ob → Option CRes) : Prop := ∀ k args lent r, call k args lent = some r → Good P k args lent r ∧ ∃ fn, P.funcs[k]? = some fn ∧ (fn.name == "runtime.NumGoroutine") = false ∧ fn.body.isNone = false
end Go.Proofs.YtnfhglplafmfiaaGreatE
