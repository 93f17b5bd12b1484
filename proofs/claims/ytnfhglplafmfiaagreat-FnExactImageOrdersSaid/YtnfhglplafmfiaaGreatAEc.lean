/- Soundness of the evaluator, third part: regions, calls. -/
import Derived.Test.YtnfhglplafmfiaaGreatAEb
namespace Go.Proofs.YtnfhglplafmfiaaGreatE
set_option linter.unusedSectionVars false
set_option linter.unusedSimpArgs false
set_option linter.unusedVariables false
open Go
set_option linter.unusedSectionVars false

def posn : List (Nat × Nat) → Nat → Nat → Option (Nat × Nat)
  | [], _, _ => none
  | p :: ps, i, id => if p.1 = id then some (i, p.2) else posn ps (i + 1) id

theorem posn_some : ∀ (ids : List (Nat × Nat)) (i0 id i v : Nat), posn ids i0 id = some (i, v) → i0 ≤ i ∧ ids[i - i0]? = some (id, v)
  | [], _, _, _, _, h => by simp [posn] at h
  | p :: ps, i0, id, i, v, h => by
    simp only [posn] at h
    split at h
    · rename_i e
      simp only [Option.some.injEq, Prod.mk.injEq] at h
      obtain ⟨rfl, rfl⟩ := h
      exact ⟨Nat.le_refl _, by simp [← e]⟩
    · obtain ⟨h1, h2⟩ := posn_some ps (i0 + 1) id i v h
      refine ⟨by omega, ?_⟩
      rw [show i - i0 = (i - (i0 + 1)) + 1 by omega]; simpa using h2

theorem posn_none : ∀ (ids : List (Nat × Nat)) (i0 id : Nat), posn ids i0 id = none → id ∉ ids.map (·.1)
  | [], _, _, _ => by simp
  | p :: ps, i0, id, h => by
    simp only [posn] at h
    split at h
    · simp at h
    · rename_i e
      have := posn_none ps (i0 + 1) id h
      simp only [List.map_cons, List.mem_cons, not_or]
      exact ⟨fun e1 => e e1.symm, this⟩

theorem look_lentBack : ∀ (ids : List (Nat × Nat)) (xs : List (Option Ob)) (id i0 : Nat) (ys : List (Option Ob)), (∀ i, xs[i]? = ys[i0 + i]?) →
    lookL (lentBack ids xs) id = match posn ids i0 id with | some (i, v) => some (match (ys[i]?).join with | some ob => some (v, ob) | none => none) | none => none
  | [], xs, id, i0, ys, _ => by simp [lentBack, lookL, posn]
  | p :: ps, [], id, i0, ys, h => by
    simp only [lentBack, lookL, posn]
    have h0 : ys[i0]? = none := by have := h 0; simpa using this.symm
    split
    · simp [h0]
    · exact look_lentBack ps [] id (i0 + 1) ys (fun i => by have := h (i + 1); rw [show i0 + 1 + i = i0 + (i + 1) by omega, ← this]; simp)
  | p :: ps, x :: xs, id, i0, ys, h => by
    simp only [lentBack, lookL, posn]
    have h0 : ys[i0]? = some x := by have := h 0; simpa using this.symm
    split
    · simp only [h0, Option.join_some]
      cases x <;> rfl
    · exact look_lentBack ps xs id (i0 + 1) ys (fun i => by have := h (i + 1); rw [show i0 + 1 + i = i0 + (i + 1) by omega, ← this]; simp)

theorem look_newObs (t ver : Nat) : ∀ (os : List Ob) (j id : Nat), lookL (newObs t ver j os) id = if t * 16 + j ≤ id ∧ id < t * 16 + j + os.length then (os[id - (t * 16 + j)]?).map (fun o => some (ver, o)) else none
  | [], j, id => by simp [newObs, lookL]
  | o :: os, j, id => by
    simp only [newObs, lookL, List.length_cons]
    by_cases h : t * 16 + j = id
    · rw [if_pos h, if_pos (by omega), show id - (t * 16 + j) = 0 by omega]; rfl
    · rw [if_neg h, look_newObs t ver os (j + 1) id]
      by_cases h2 : t * 16 + (j + 1) ≤ id ∧ id < t * 16 + (j + 1) + os.length
      · rw [if_pos h2, if_pos (by omega), show id - (t * 16 + j) = (id - (t * 16 + (j + 1))) + 1 by omega]; rfl
      · rw [if_neg h2, if_neg (by omega)]

theorem lookL_append {α : Type} (xs ys : List (Nat × α)) (id : Nat) : lookL (xs ++ ys) id = match lookL xs id with | some x => some x | none => lookL ys id := by
  induction xs with
  | nil => rfl
  | cons p r ih =>
    simp only [List.cons_append, lookL]
    split
    · rfl
    · exact ih

section
variable {P : Program} {n0 : Nat} {M : Nat → Prop} {F : Frz} {β : Beta} {U : Nat → Prop} {O : Nat → Option (Nat × Ob)} {look : Nat → Option AV} {a : Act} {w : World} {ver : Nat} {h : Heap}

theorem ret_rep {F' : Frz} (hF : ∀ b, F.p b → F' b ∧ F'.p b) {x : D} {v : Value} (hx : retD x = true) (r : DRep F h x v) : DRep F' h x v := by
  cases r with
  | pin cells A len cap vs hl hc hv hm hr =>
    refine .pin cells A len cap vs hl hc hv (fun i v hi => ?_) hr
    obtain ⟨b, off, e, hb, hcell⟩ := hm i v hi
    exact ⟨b, off, e, hF b hb.2, hcell⟩
  | int k n => exact .int k n
  | bool b => exact .bool b
  | str s => exact .str s
  | nil => exact .nil
  | _ => simp [retD, plainD] at hx

theorem RowB.flat {F' : Frz} {b o cap : Nat} {cells : List D} (hF : ∀ b, F.p b → F' b ∧ F'.p b) (hf : cells.all retD = true) (r : RowB F h b o cap cells) : RowB F' h b o cap cells := by
  obtain ⟨c, e, h1, h2, h3, h4⟩ := r
  refine ⟨c, e, h1, h2, h3, fun j d hj => ?_⟩
  obtain ⟨g1, v, g2, g3⟩ := h4 j d hj
  rw [List.all_eq_true] at hf
  exact ⟨g1, v, g2, ret_rep hF (hf d (List.mem_of_getElem? hj)) g3⟩

theorem rows_flat {F' : Frz} {rows : List (List D)} {inner : List Value} (hF : ∀ b, F.p b → F' b ∧ F'.p b) (hf : (rows.all fun r => r.all retD) = true) (r : ∀ (i : Nat) (r : List D) (x : Value), rows[i]? = some r → inner[i]? = some x → RowV F h r x) :
    ∀ (i : Nat) (r : List D) (x : Value), rows[i]? = some r → inner[i]? = some x → RowV F' h r x := by
  intro i row x hr hx
  rw [List.all_eq_true] at hf
  rcases r i row x hr hx with g | ⟨b, o, cap, e, hB⟩
  · exact .inl g
  · exact .inr ⟨b, o, cap, e, hB.flat hF (hf row (List.mem_of_getElem? hr))⟩

theorem ORep.flat {F' : Frz} {β' : Beta} {U' : Nat → Prop} {L : Loc} {ob : Ob} (hF : ∀ b, F.p b → F' b ∧ F'.p b) (hf : flatOb ob = true) (r : ORep F h β U L ob) : ORep F' h β' U' L ob := by
  cases ob with
  | box cells =>
    obtain ⟨f, l, l2, c, e, hc, hs, hx⟩ := r
    refine ⟨f, l, l2, c, e, hc, hs, fun i x hi => ?_⟩
    obtain ⟨v, hv, hr⟩ := hx i x hi
    refine ⟨v, hv, ?_⟩
    simp only [flatOb, List.all_eq_true] at hf
    have := hf x (List.mem_of_getElem? hi)
    cases hr with
    | d x v hd => exact .d _ _ (ret_rep hF this hd)
    | _ => simp at this
  | row cells =>
    obtain ⟨f, l, hB⟩ := r
    exact ⟨f, l, hB.flat hF hf⟩
  | mat op rows =>
    obtain ⟨l, l', c, e, inner, hh, hs, hi', g1, g2, g3, g4, g5⟩ := r
    exact ⟨l, l', c, e, inner, hh, hs, hi', g1, rows_flat hF hf g2, g3, g4, g5⟩
  | per w' rows cells =>
    obtain ⟨l0, l, l', hi2, ⟨c, e, hh, hs, g1⟩, g2, g4, g5⟩ := r
    simp only [flatOb, Bool.and_eq_true] at hf
    refine ⟨l0, l, l', hi2, ⟨c, e, hh, hs, fun i p hp => ?_⟩, rows_flat hF hf.1 g2, g4, g5⟩
    obtain ⟨v, hv, hr⟩ := g1 i p hp
    refine ⟨v, hv, ?_⟩
    have hf := hf.2
    rw [List.all_eq_true] at hf
    have := hf p (List.mem_of_getElem? hp)
    cases p with
    | d x => exact ⟨ret_rep hF this hr.1, hr.2⟩
    | r k => exact hr

theorem ren_rep {Z : Nat → Prop} {β' β'' : Beta} {U'' : Nat → Prop} {t n : Nat} {ids : List (Nat × Nat)} (hlo : ∀ b, Z b → F b ∧ F.p b) (hβ : ∀ j L, j < n → β'' (t * 16 + j) = some (ver, L) → β' j = some (0, L)) (hU : U'' ver)
    (hl : ∀ (i : Nat) (p : Nat × Nat), ids[i]? = some p → U'' p.2 ∧ ∀ L, β'' p.1 = some (p.2, L) → β' (100000 + i) = some (0, L)) (hn : n ≤ 100000) :
    ∀ (k : Nat) (x : AV) (v : Value), refsOk n ids.length k x = true → VRep ⟨Z, Z⟩ h β' (· = 0) x v → VRep F h β'' U'' (ren t ver ids k x) v := by
  intro k
  induction k with
  | zero => intro x v hk; simp [refsOk] at hk
  | succ k ih =>
    intro x v hk r
    cases r with
    | d x v hd => exact .d _ _ (hd.ext (fun b hb => (hlo b hb).1) (fun b hb => (hlo b hb).2) (fun _ _ => rfl))
    | ptr j r off v ho hu hv =>
      simp only [refsOk, Bool.and_eq_true, decide_eq_true_eq, beq_iff_eq] at hk
      obtain ⟨⟨hj, rfl⟩, rfl⟩ := hk
      simp only [ren]
      exact .ptr _ _ _ _ ho hU fun L hL => hv L (hβ j L hj hL)
    | own j r v ho hu hv =>
      simp only [refsOk, Bool.and_eq_true, Bool.or_eq_true, decide_eq_true_eq, beq_iff_eq] at hk
      obtain ⟨hj, rfl⟩ := hk
      simp only [ren]
      by_cases hge : 100000 ≤ j
      · rw [if_pos hge]
        have hi : j - 100000 < ids.length := by omega
        rw [List.getElem?_eq_getElem hi]
        obtain ⟨q1, q2⟩ := hl (j - 100000) _ (List.getElem?_eq_getElem hi)
        exact .own _ _ _ ho q1 fun L hL => hv L (by have := q2 L hL; rwa [show 100000 + (j - 100000) = j by omega] at this)
      · rw [if_neg hge]
        exact .own _ _ _ ho hU fun L hL => hv L (hβ j L (by omega) hL)
    | sub j r off len v ho hu hv =>
      simp only [refsOk, Bool.and_eq_true, decide_eq_true_eq, beq_iff_eq] at hk
      obtain ⟨⟨hge, hj⟩, rfl⟩ := hk
      simp only [ren]
      have hi : j - 100000 < ids.length := by omega
      rw [List.getElem?_eq_getElem hi]
      obtain ⟨q1, q2⟩ := hl (j - 100000) _ (List.getElem?_eq_getElem hi)
      exact .sub _ _ _ _ _ ho q1 fun L hL => hv L (by have := q2 L hL; rwa [show 100000 + (j - 100000) = j by omega] at this)
    | agg cells vs hl' hr =>
      simp only [refsOk, List.all_eq_true] at hk
      refine .agg _ _ (by simpa using hl') fun i y u hy hu => ?_
      simp only [List.getElem?_map, Option.map_eq_some_iff] at hy
      obtain ⟨z, hz, rfl⟩ := hy
      exact ih z u (hk z (List.mem_of_getElem? hz)) (hr i z u hz hu)
    | tuple cells vs hl' hr =>
      simp only [refsOk, List.all_eq_true] at hk
      refine .tuple _ _ (by simpa using hl') fun i y u hy hu => ?_
      simp only [List.getElem?_map, Option.map_eq_some_iff] at hy
      obtain ⟨z, hz, rfl⟩ := hy
      exact ih z u (hk z (List.mem_of_getElem? hz)) (hr i z u hz hu)
    | _ => simp [refsOk] at hk

theorem merge (I : Inv n0 M F β U O w.heap) (hver : ¬ U ver) {Z : Nat → Prop} (hZ1 : ∀ b, F.p b → Z b) (hZ2 : ∀ b, Z b → F.p b ∨ w.heap.size ≤ b) {ids : List (Nat × Nat)} {Ls : List Loc} {r : CRes} {t : Nat} {w' : World} {val : Value} {β' : Beta} (hlen : Ls.length = ids.length)
    (hids : ∀ (i : Nat) (p : Nat × Nat) (L : Loc), ids[i]? = some p → Ls[i]? = some L → β p.1 = some (p.2, L)) (hnd : (ids.map (·.1)).Nodup)
    (S : Stp w.heap.size (lentM Ls) w w') (V : VRep ⟨Z, Z⟩ w'.heap β' (· = 0) r.val val) (I' : Inv w.heap.size (lentM Ls) ⟨Z, Z⟩ β' (· = 0) (resO r) w'.heap)
    (hsame : ∀ i L, 100000 ≤ i → β' i = some (0, L) → ∃ L0, lentB Ls i = some (0, L0) ∧ L0.same L) (hn : r.obs.length ≤ 16) (href : refsOk r.obs.length ids.length 3 r.val = true) (hfo : r.obs.all flatOb = true)
    (hfl : r.lent.all (fun x => match x with | some ob => flatOb ob | none => true) = true) :
    Post n0 M F β U O w ver { val := ren t ver ids 3 r.val, upd := newObs t ver 0 r.obs ++ lentBack ids r.lent } val w' := by
  let β'' : Beta := fun id => if t * 16 ≤ id ∧ id < t * 16 + r.obs.length then (β' (id - t * 16)).map (fun p => (ver, p.2)) else
    match posn ids 0 id with | some (i, v) => (β' (100000 + i)).map (fun p => (v, p.2)) | none => β id
  have hmem : ∀ (i : Nat) (p : Nat × Nat), ids[i]? = some p → ∃ L, Ls[i]? = some L ∧ β p.1 = some (p.2, L) := by
    intro i p hp
    have hi : i < Ls.length := by rw [hlen]; exact (List.getElem?_eq_some_iff.1 hp).1
    exact ⟨Ls[i], List.getElem?_eq_getElem hi, hids i p _ hp (List.getElem?_eq_getElem hi)⟩
  have key : ∀ id v L, β'' id = some (v, L) → (∃ j, j < r.obs.length ∧ id = t * 16 + j ∧ v = ver ∧ β' j = some (0, L)) ∨
      (¬ (t * 16 ≤ id ∧ id < t * 16 + r.obs.length) ∧ ∃ i, ids[i]? = some (id, v) ∧ posn ids 0 id = some (i, v) ∧ β' (100000 + i) = some (0, L)) ∨
      (¬ (t * 16 ≤ id ∧ id < t * 16 + r.obs.length) ∧ posn ids 0 id = none ∧ β id = some (v, L)) := by
    intro id v L hL
    simp only [β''] at hL
    split at hL
    · rename_i hr
      simp only [Option.map_eq_some_iff, Prod.mk.injEq] at hL
      obtain ⟨⟨v0, L0⟩, h1, rfl, rfl⟩ := hL
      have : v0 = 0 := I'.used _ _ _ h1
      subst this
      exact .inl ⟨id - t * 16, by omega, by omega, rfl, h1⟩
    · rename_i hr
      split at hL
      · rename_i i v0 hp
        simp only [Option.map_eq_some_iff, Prod.mk.injEq] at hL
        obtain ⟨⟨v1, L0⟩, h1, rfl, rfl⟩ := hL
        have : v1 = 0 := I'.used _ _ _ h1
        subst this
        exact .inr (.inl ⟨hr, i, by have := (posn_some ids 0 id i v0 hp).2; simpa using this, hp, h1⟩)
      · rename_i hp
        exact .inr (.inr ⟨hr, hp, hL⟩)
  have hFM : ∀ b, F b → b < w.heap.size ∧ ¬ lentM Ls b := by
    intro b hb
    refine ⟨I.lt b hb, fun ⟨L, hL, hbL⟩ => ?_⟩
    obtain ⟨i, hi, rfl⟩ := List.mem_iff_getElem.1 hL
    have hi' : i < ids.length := by omega
    exact (I.out _ _ _ (hids i ids[i] Ls[i] (by simp [hi']) (by simp [hi])) b hbL).1 hb
  have hMout : ∀ b, lentM Ls b → ¬ F b ∧ b < w.heap.size ∧ (n0 ≤ b ∨ M b) := by
    intro b ⟨L, hL, hbL⟩
    obtain ⟨i, hi, rfl⟩ := List.mem_iff_getElem.1 hL
    have hi' : i < ids.length := by omega
    exact I.out _ _ _ (hids i ids[i] Ls[i] (by simp [hi']) (by simp [hi])) b hbL
  -- a caller's own object that was not lent
  have hC : ∀ id v L, posn ids 0 id = none → β id = some (v, L) → ∀ b ∈ L.fp, b < w.heap.size ∧ ¬ lentM Ls b := by
    intro id v L hp hL b hb
    refine ⟨(I.out id v L hL b hb).2.1, fun ⟨L2, hL2, hb2⟩ => ?_⟩
    obtain ⟨i, hi, rfl⟩ := List.mem_iff_getElem.1 hL2
    have hi' : i < ids.length := by omega
    have hm := hids i ids[i] Ls[i] (by simp [hi']) (by simp [hi])
    refine I.disj id v L _ _ _ hL hm (fun e => posn_none ids 0 id hp ?_) b hb hb2
    rw [e]; exact List.mem_map.2 ⟨ids[i], List.getElem_mem hi', rfl⟩
  let F1 : Frz := ⟨fun b => F b ∨ Z b, Z⟩
  have hZF : ∀ b, Z b → F1 b ∧ F1.p b := fun b hb => ⟨.inr hb, hb⟩
  have E : Ext F w.heap β U F1 w'.heap β'' (fun v => U v ∨ v = ver) := by
    refine ⟨fun _ h => .inl h, fun b hb => S.block b (hFM b hb).1 (hFM b hb).2, fun _ h => .inl h, fun id v L hv hL => ?_, hZ1, hZ2⟩
    rcases key id v L hL with ⟨j, _, _, rfl, _⟩ | ⟨_, i, hi, _, hb⟩ | ⟨_, _, hb⟩
    · exact absurd hv hver
    · obtain ⟨L0, hL0, hs⟩ := hsame (100000 + i) L (by omega) hb
      obtain ⟨L1, hL1, hb1⟩ := hmem i (id, v) hi
      simp only [lentB, Nat.le_add_right, if_true, Nat.add_sub_cancel_left, hL1, Option.map_some, Option.some.injEq, Prod.mk.injEq, true_and] at hL0
      subst hL0
      exact ⟨L1, hb1, hs⟩
    · exact ⟨L, hb, rfl, rfl, rfl, rfl, rfl⟩
  have hO'' : ∀ id, updO O (newObs t ver 0 r.obs ++ lentBack ids r.lent) id = if t * 16 ≤ id ∧ id < t * 16 + r.obs.length then (r.obs[id - t * 16]?).map (fun o => (ver, o)) else
      match posn ids 0 id with | some (i, v) => ((r.lent[i]?).join).map (fun o => (v, o)) | none => O id := by
    intro id
    simp only [updO, lookL_append, look_newObs, Nat.add_zero, look_lentBack ids r.lent id 0 r.lent (fun i => by simp)]
    by_cases h1 : t * 16 ≤ id ∧ id < t * 16 + r.obs.length
    · have hlt : id - t * 16 < r.obs.length := by omega
      simp [h1, hlt]
    · simp only [h1, if_false]
      cases hp : posn ids 0 id with
      | none => rfl
      | some q =>
        obtain ⟨i, v⟩ := q
        simp only
        cases (r.lent[i]?).join <;> rfl
  have hresA : ∀ j, j < r.obs.length → resO r j = (r.obs[j]?).map (fun o => (0, o)) := by
    intro j hj
    have : ¬ (100000 ≤ j) := by omega
    simp [resO, this]
  have hresB : ∀ i, resO r (100000 + i) = ((r.lent[i]?).join).map (fun o => (0, o)) := by
    intro i; simp [resO]
  refine ⟨F1, β'', _, ⟨?_, ?_, ?_, ?_, ?_, ?_, ?_, fun b hb => .inr hb⟩, ?_, E, fun v h => h, ?_⟩
  · -- objects
    intro id v ob hO
    rw [hO''] at hO
    split at hO
    · rename_i h1
      simp only [Option.map_eq_some_iff, Prod.mk.injEq] at hO
      obtain ⟨o, ho, rfl, rfl⟩ := hO
      have hj : id - t * 16 < r.obs.length := by omega
      obtain ⟨L, hL, hrep⟩ := I'.objs (id - t * 16) 0 o (by rw [hresA _ hj, ho]; rfl)
      refine ⟨L, by simp [β'', h1, hL], hrep.flat hZF ?_⟩
      simp only [List.all_eq_true] at hfo
      exact hfo o (List.mem_of_getElem? ho)
    · rename_i h1
      split at hO
      · rename_i i v0 hp
        simp only [Option.map_eq_some_iff, Prod.mk.injEq] at hO
        obtain ⟨o, ho, rfl, rfl⟩ := hO
        obtain ⟨L, hL, hrep⟩ := I'.objs (100000 + i) 0 o (by rw [hresB, ho]; rfl)
        refine ⟨L, by simp [β'', h1, hp, hL], hrep.flat hZF ?_⟩
        simp only [List.all_eq_true] at hfl
        obtain ⟨x, hx, hxo⟩ : ∃ x, r.lent[i]? = some x ∧ x = some o := by
          cases hx : r.lent[i]? with
          | none => simp [hx] at ho
          | some x => exact ⟨x, rfl, by simpa [hx] using ho⟩
        have := hfl x (List.mem_of_getElem? hx)
        simpa [hxo] using this
      · rename_i hp
        obtain ⟨L, hL, hrep⟩ := I.objs id v ob hO
        refine ⟨L, by simp [β'', h1, hp, hL], hrep.ext E fun b hb => ?_⟩
        obtain ⟨q1, q2⟩ := hC id v L hp hL b hb
        exact S.block b q1 q2
  · intro id v L hL
    rcases key id v L hL with ⟨j, hj, rfl, rfl, hb⟩ | ⟨h1, i, hi, hp, hb⟩ | ⟨h1, hp, hb⟩
    · refine ⟨r.obs[j], ?_⟩
      rw [hO'', if_pos (by omega)]
      simp [hj]
    · obtain ⟨ob, ho⟩ := I'.only _ _ _ hb
      rw [hresB] at ho
      simp only [Option.map_eq_some_iff, Prod.mk.injEq, true_and] at ho
      obtain ⟨o, ho, rfl⟩ := ho
      exact ⟨o, by rw [hO'', if_neg h1, hp]; simp [ho]⟩
    · obtain ⟨ob, ho⟩ := I.only id v L hb
      exact ⟨ob, by rw [hO'', if_neg h1, hp]; exact ho⟩
  · intro id v L hL
    rcases key id v L hL with ⟨j, hj, rfl, rfl, hb⟩ | ⟨h1, i, hi, hp, hb⟩ | ⟨h1, hp, hb⟩
    · exact .inr rfl
    · obtain ⟨L1, _, hb1⟩ := hmem i (id, v) hi
      exact .inl (I.used id v L1 hb1)
    · exact .inl (I.used id v L hb)
  · -- apart
    intro id v L id2 v2 L2 hL hL2 hne b hb hb2
    have hn0 : ∀ q Lq, β' q = some (0, Lq) → ∀ x ∈ Lq.fp, w.heap.size ≤ x ∨ lentM Ls x := fun q Lq hq x hx => (I'.out q 0 Lq hq x hx).2.2
    rcases key id v L hL with ⟨j, hj, rfl, rfl, hβ1⟩ | ⟨h1, i, hi, hp, hβ1⟩ | ⟨h1, hp, hβ1⟩ <;> rcases key id2 v2 L2 hL2 with ⟨j2, hj2, rfl, rfl, hβ2⟩ | ⟨h2, i2, hi2, hp2, hβ2⟩ | ⟨h2, hp2, hβ2⟩
    · exact I'.disj _ _ _ _ _ _ hβ1 hβ2 (by omega) b hb hb2
    · exact I'.disj _ _ _ _ _ _ hβ1 hβ2 (by omega) b hb hb2
    · obtain ⟨q1, q2⟩ := hC _ _ _ hp2 hβ2 b hb2
      rcases hn0 _ _ hβ1 b hb with h | h
      · omega
      · exact q2 h
    · exact I'.disj _ _ _ _ _ _ hβ1 hβ2 (by omega) b hb hb2
    · refine I'.disj _ _ _ _ _ _ hβ1 hβ2 (fun e => hne ?_) b hb hb2
      have : i = i2 := by omega
      subst this
      rw [hi] at hi2
      simpa using congrArg (Option.map Prod.fst) hi2
    · obtain ⟨q1, q2⟩ := hC _ _ _ hp2 hβ2 b hb2
      rcases hn0 _ _ hβ1 b hb with h | h
      · omega
      · exact q2 h
    · obtain ⟨q1, q2⟩ := hC _ _ _ hp hβ1 b hb
      rcases hn0 _ _ hβ2 b hb2 with h | h
      · omega
      · exact q2 h
    · obtain ⟨q1, q2⟩ := hC _ _ _ hp hβ1 b hb
      rcases hn0 _ _ hβ2 b hb2 with h | h
      · omega
      · exact q2 h
    · exact I.disj _ _ _ _ _ _ hβ1 hβ2 hne b hb hb2
  · intro id v L hL b hb
    have fromC : ∀ q, β' q = some (0, L) → ¬ F1 b ∧ b < w'.heap.size ∧ (n0 ≤ b ∨ M b) := by
      intro q hq
      obtain ⟨o1, o2, o3⟩ := I'.out q 0 L hq b hb
      rcases o3 with o3 | o3
      · exact ⟨fun hF => hF.elim (fun hF => by have := I.lt b hF; omega) o1, o2, .inl (Nat.le_trans I.le o3)⟩
      · obtain ⟨m1, _, m3⟩ := hMout b o3
        exact ⟨fun hF => hF.elim m1 o1, o2, m3⟩
    rcases key id v L hL with ⟨j, hj, rfl, rfl, hβ1⟩ | ⟨h1, i, hi, hp, hβ1⟩ | ⟨h1, hp, hβ1⟩
    · exact fromC _ hβ1
    · exact fromC _ hβ1
    · obtain ⟨o1, o2, o3⟩ := I.out id v L hβ1 b hb
      exact ⟨fun hF => hF.elim o1 (fun hz => (hZ2 b hz).elim (fun hp => o1 (I.low b hp)) (fun hs => by omega)), Nat.lt_of_lt_of_le o2 S.size, o3⟩
  · exact fun b hb => hb.elim (fun hb => Nat.lt_of_lt_of_le (I.lt b hb) S.size) (fun hb => I'.lt b hb)
  · exact Nat.le_trans I.le S.size
  · have posn_at : ∀ (l : List (Nat × Nat)) (i0 i : Nat) (p : Nat × Nat), (l.map (·.1)).Nodup → l[i]? = some p → posn l i0 p.1 = some (i0 + i, p.2) := by
      intro l
      induction l with
      | nil => intro i0 i p _ h; simp at h
      | cons q l ih =>
        intro i0 i p hnd h
        simp only [List.map_cons, List.nodup_cons] at hnd
        cases i with
        | zero =>
          obtain rfl : q = p := by simpa using h
          simp [posn]
        | succ i =>
          have hp : l[i]? = some p := by simpa using h
          have hne : ¬ q.1 = p.1 := fun e => hnd.1 (e ▸ List.mem_map.2 ⟨p, List.mem_of_getElem? hp, rfl⟩)
          simp only [posn, if_neg hne]
          rw [ih (i0 + 1) i p hnd.2 hp]
          congr 2; omega
    refine ren_rep (n := r.obs.length) (β' := β') (ids := ids) hZF (fun j L hj hL => ?_) (.inr rfl) (fun i p hp => ⟨?_, fun L hL => ?_⟩) (by omega) 3 r.val val href V
    · simp only [β''] at hL
      rw [if_pos (by omega)] at hL
      simp only [Option.map_eq_some_iff, Prod.mk.injEq, true_and, Nat.add_sub_cancel_left] at hL
      obtain ⟨⟨v0, L0⟩, h1, rfl⟩ := hL
      have : v0 = 0 := I'.used _ _ _ h1
      subst this; exact h1
    · obtain ⟨L1, _, hb1⟩ := hmem i p hp
      exact .inl (I.used p.1 p.2 L1 hb1)
    · obtain ⟨L1, _, hb1⟩ := hmem i p hp
      rcases key p.1 p.2 L hL with ⟨j, hj, e, ev, _⟩ | ⟨_, i2, hi2, hp2, hb⟩ | ⟨_, hp2, hb⟩
      · exact absurd (ev ▸ I.used p.1 p.2 L1 hb1) hver
      · have e := posn_at ids 0 i p hnd hp
        rw [e] at hp2
        simp only [Option.some.injEq, Prod.mk.injEq, and_true] at hp2
        have : i2 = i := by omega
        rw [← this]; exact hb
      · rw [posn_at ids 0 i p hnd hp] at hp2
        simp at hp2
  · exact ⟨S.os, S.tape, S.output, S.size, fun b hb hM => S.block b (Nat.lt_of_lt_of_le hb I.le) (fun hl => by
      rcases (hMout b hl).2.2 with h | h
      · omega
      · exact hM h)⟩
end
end Go.Proofs.YtnfhglplafmfiaaGreatE

namespace Go.Proofs.YtnfhglplafmfiaaGreatE
set_option linter.unusedSectionVars false
set_option linter.unusedSimpArgs false
set_option linter.unusedVariables false
open Go
set_option linter.unusedSectionVars false

section
variable {P : Program} {n0 : Nat} {M : Nat → Prop} {F : Frz} {β : Beta} {U : Nat → Prop} {O : Nat → Option (Nat × Ob)} {look : Nat → Option AV} {a : Act} {w : World} {ver : Nat} {h : Heap}
variable {cx : Cx} (hP : cx.P = P) (H : Hyp n0 M F β U O look a w ver) {out : Out} {dst : Option Tmp} {ty : TypeId} {pos : String} {aft : Array Edge} {gd : Option (Nat × Bool)}

theorem LRel.cons {x : AV} {u : Value} {xs : List AV} {us : List Value} (h1 : VRep F h β U x u) (h2 : LRel F h β U xs us) : LRel F h β U (x :: xs) (u :: us) :=
  LRel.append (xs := [x]) (us := [u]) ⟨rfl, fun i y v hy hv => by
    cases i with
    | zero => simp at hy hv; subst hy; subst hv; exact h1
    | succ i => simp at hy⟩ h2

theorem LRel.uncons {x : AV} {xs : List AV} {us : List Value} (h1 : LRel F h β U (x :: xs) us) : ∃ v vs, us = v :: vs ∧ VRep F h β U x v ∧ LRel F h β U xs vs := by
  cases us with
  | nil => have := h1.1; simp at this
  | cons v vs => exact ⟨v, vs, rfl, h1.2 0 x v rfl rfl, by have := h1.1; simpa using this, fun i y u hy hu => h1.2 (i + 1) y u hy hu⟩

/-- The frozen blocks of a callee: all that is there but what is lent. -/
def FF (F : Frz) (w : World) (Ls : List Loc) : Frz := ⟨fun b => b < w.heap.size ∧ ¬ lentM Ls b, F.p⟩

structure LendHyp (F : Frz) (β : Beta) (w : World) (O' : Nat → Option (Nat × Ob)) (O : Nat → Option (Nat × Ob)) (ids : List (Nat × Nat)) (Ls : List Loc) : Prop where
  hF : ∀ b, F b → FF F w Ls b
  hO : ∀ id v ob, O' id = some (v, ob) → O id = some (v, ob) ∧ ∀ L, β id = some (v, L) → ∀ b ∈ L.fp, FF F w Ls b
  hids : ∀ (i : Nat) (p : Nat × Nat), ids[i]? = some p → ∃ L, Ls[i]? = some L ∧ β p.1 = some (p.2, L)

variable {O' : Nat → Option (Nat × Ob)} {ids : List (Nat × Nat)} {Ls : List Loc}

theorem own_lent (K : LendHyp F β w O' O ids Ls) {i id v : Nat} {u : Value} (hi : ids[i]? = some (id, v)) (r : VRep F w.heap β U (.own id v) u) :
    VRep (FF F w Ls) w.heap (lentB Ls) (· = 0) (.own (100000 + i) 0) u := by
  cases r with
  | own _ _ _ ho hu hv =>
    obtain ⟨L, hL, hβ⟩ := K.hids i _ hi
    refine .own _ _ _ ho rfl fun L' hL' => ?_
    simp only [lentB, Nat.le_add_right, if_true, Nat.add_sub_cancel_left, hL, Option.map_some, Option.some.injEq, Prod.mk.injEq, true_and] at hL'
    subst hL'
    exact hv L hβ

theorem inn_lent (K : LendHyp F β w O' O ids Ls) {i id v j : Nat} {u : Value} (hi : ids[i]? = some (id, v)) (r : VRep F w.heap β U (.inn id v j) u) :
    VRep (FF F w Ls) w.heap (lentB Ls) (· = 0) (.inn (100000 + i) 0 j) u := by
  cases r with
  | inn _ _ _ _ ho hu hv =>
    obtain ⟨L, hL, hβ⟩ := K.hids i _ hi
    refine .inn _ _ _ _ ho rfl fun L' hL' => ?_
    simp only [lentB, Nat.le_add_right, if_true, Nat.add_sub_cancel_left, hL, Option.map_some, Option.some.injEq, Prod.mk.injEq, true_and] at hL'
    subst hL'
    exact hv L hβ

theorem ptr_lent (K : LendHyp F β w O' O ids Ls) {i id v j : Nat} {u : Value} (hi : ids[i]? = some (id, v)) (r : VRep F w.heap β U (.ptr id v j) u) :
    VRep (FF F w Ls) w.heap (lentB Ls) (· = 0) (.ptr (100000 + i) 0 j) u := by
  cases r with
  | ptr _ _ _ _ ho hu hv =>
    obtain ⟨L, hL, hβ⟩ := K.hids i _ hi
    refine .ptr _ _ _ _ ho rfl fun L' hL' => ?_
    simp only [lentB, Nat.le_add_right, if_true, Nat.add_sub_cancel_left, hL, Option.map_some, Option.some.injEq, Prod.mk.injEq, true_and] at hL'
    subst hL'
    exact hv L hβ

theorem lendCells_rep (I : Inv n0 M F β U O w.heap) (K : LendHyp F β w O' O ids Ls) : ∀ (cs : List AV) (us : List Value) (i : Nat) (ds : List AV) (j : Nat), LRel F w.heap β U cs us →
    lendCells O' i cs = some (ds, j) → (∀ k p, (cellIds cs)[k]? = some p → ids[i + k]? = some p) → LRel (FF F w Ls) w.heap (lentB Ls) (· = 0) ds us ∧ j = i + (cellIds cs).length
  | [], us, i, ds, j, R, hl, _ => by
    simp only [lendCells, Option.some.injEq, Prod.mk.injEq] at hl
    obtain ⟨rfl, rfl⟩ := hl
    have : us = [] := List.eq_nil_of_length_eq_zero (by simpa using R.1.symm)
    subst this
    exact ⟨⟨rfl, fun i x u hx _ => by simp at hx⟩, rfl⟩
  | .own id v :: as, us, i, ds, j, R, hl, hk => by
    obtain ⟨u, vs, rfl, r1, r2⟩ := R.uncons
    simp only [lendCells] at hl
    obtain ⟨⟨es, j'⟩, he, hl⟩ := bnd_eq_some.1 hl
    simp only [Option.some.injEq, Prod.mk.injEq] at hl
    obtain ⟨rfl, rfl⟩ := hl
    obtain ⟨q1, q2⟩ := lendCells_rep I K as vs (i + 1) es j' r2 he (fun k p hp => by have := hk (k + 1) p (by simpa [cellIds] using hp); rwa [show i + 1 + k = i + (k + 1) by omega])
    exact ⟨LRel.cons (own_lent K (by have := hk 0 (id, v) (by simp [cellIds]); simpa using this) r1) q1, by simp only [cellIds, List.length_cons]; omega⟩
  | .undef :: as, us, i, ds, j, R, hl, hk => plain I K .undef as us i ds j R (by simpa only [lendCells] using hl) rfl hk (fun vs es j' => lendCells_rep I K as vs i es j')
  | .d x :: as, us, i, ds, j, R, hl, hk => plain I K (.d x) as us i ds j R (by simpa only [lendCells] using hl) rfl hk (fun vs es j' => lendCells_rep I K as vs i es j')
  | .sub a b c d :: as, us, i, ds, j, R, hl, hk => plain I K (.sub a b c d) as us i ds j R (by simpa only [lendCells] using hl) rfl hk (fun vs es j' => lendCells_rep I K as vs i es j')
  | .ptr a b c :: as, us, i, ds, j, R, hl, hk => plain I K (.ptr a b c) as us i ds j R (by simpa only [lendCells] using hl) rfl hk (fun vs es j' => lendCells_rep I K as vs i es j')
  | .inn a b c :: as, us, i, ds, j, R, hl, hk => plain I K (.inn a b c) as us i ds j R (by simpa only [lendCells] using hl) rfl hk (fun vs es j' => lendCells_rep I K as vs i es j')
  | .innp a b c d :: as, us, i, ds, j, R, hl, hk => plain I K (.innp a b c d) as us i ds j R (by simpa only [lendCells] using hl) rfl hk (fun vs es j' => lendCells_rep I K as vs i es j')
  | .agg x :: as, us, i, ds, j, R, hl, hk => plain I K (.agg x) as us i ds j R (by simpa only [lendCells] using hl) rfl hk (fun vs es j' => lendCells_rep I K as vs i es j')
  | .tuple x :: as, us, i, ds, j, R, hl, hk => plain I K (.tuple x) as us i ds j R (by simpa only [lendCells] using hl) rfl hk (fun vs es j' => lendCells_rep I K as vs i es j')
  | .clo f x y :: as, us, i, ds, j, R, hl, hk => plain I K (.clo f x y) as us i ds j R (by simpa only [lendCells] using hl) rfl hk (fun vs es j' => lendCells_rep I K as vs i es j')
where
  plain (I : Inv n0 M F β U O w.heap) (K : LendHyp F β w O' O ids Ls) (x : AV) (as : List AV) (us : List Value) (i : Nat) (ds : List AV) (j : Nat) (R : LRel F w.heap β U (x :: as) us)
      (hl : (bnd (view O' 6 x) fun d => bnd (lendCells O' i as) fun r => some (ofD d :: r.1, r.2)) = some (ds, j)) (hc : cellIds (x :: as) = cellIds as)
      (hk : ∀ k p, (cellIds (x :: as))[k]? = some p → ids[i + k]? = some p)
      (ih : ∀ (vs : List Value) (es : List AV) (j' : Nat), LRel F w.heap β U as vs → lendCells O' i as = some (es, j') → (∀ k p, (cellIds as)[k]? = some p → ids[i + k]? = some p) →
        LRel (FF F w Ls) w.heap (lentB Ls) (· = 0) es vs ∧ j' = i + (cellIds as).length) :
      LRel (FF F w Ls) w.heap (lentB Ls) (· = 0) ds us ∧ j = i + (cellIds (x :: as)).length := by
    obtain ⟨u, vs, rfl, r1, r2⟩ := R.uncons
    obtain ⟨d, hd, hl⟩ := bnd_eq_some.1 hl
    obtain ⟨⟨es, j'⟩, he, hl⟩ := bnd_eq_some.1 hl
    simp only [Option.some.injEq, Prod.mk.injEq] at hl
    obtain ⟨rfl, rfl⟩ := hl
    rw [hc] at hk ⊢
    obtain ⟨q1, q2⟩ := ih vs es j' r2 he hk
    exact ⟨LRel.cons (ofD_rep (view_rep I K.hF (fun _ h => h) K.hO 6 x u d r1 hd)) q1, q2⟩

theorem lendArgs_rep (I : Inv n0 M F β U O w.heap) (K : LendHyp F β w O' O ids Ls) : ∀ (as : List AV) (us : List Value) (i : Nat) (ds : List AV), LRel F w.heap β U as us →
    lendArgs O' i as = some ds → (∀ k p, (lendIds as)[k]? = some p → ids[i + k]? = some p) → LRel (FF F w Ls) w.heap (lentB Ls) (· = 0) ds us
  | [], us, i, ds, R, hl, _ => by
    simp only [lendArgs, Option.some.injEq] at hl
    subst hl
    have : us = [] := List.eq_nil_of_length_eq_zero (by simpa using R.1.symm)
    subst this
    exact ⟨rfl, fun i x u hx _ => by simp at hx⟩
  | .own id v :: as, us, i, ds, R, hl, hk => by
    obtain ⟨u, vs, rfl, r1, r2⟩ := R.uncons
    simp only [lendArgs] at hl
    obtain ⟨es, he, hl⟩ := bnd_eq_some.1 hl
    simp only [Option.some.injEq] at hl
    subst hl
    exact LRel.cons (own_lent K (by have := hk 0 (id, v) (by simp [lendIds]); simpa using this) r1)
      (lendArgs_rep I K as vs (i + 1) es r2 he (fun k p hp => by have := hk (k + 1) p (by simpa [lendIds] using hp); rwa [show i + 1 + k = i + (k + 1) by omega]))
  | .inn id v j :: as, us, i, ds, R, hl, hk => by
    obtain ⟨u, vs, rfl, r1, r2⟩ := R.uncons
    simp only [lendArgs] at hl
    obtain ⟨es, he, hl⟩ := bnd_eq_some.1 hl
    simp only [Option.some.injEq] at hl
    subst hl
    exact LRel.cons (inn_lent K (by have := hk 0 (id, v) (by simp [lendIds]); simpa using this) r1)
      (lendArgs_rep I K as vs (i + 1) es r2 he (fun k p hp => by have := hk (k + 1) p (by simpa [lendIds] using hp); rwa [show i + 1 + k = i + (k + 1) by omega]))
  | .agg cs :: as, us, i, ds, R, hl, hk => by
    obtain ⟨u, vs, rfl, r1, r2⟩ := R.uncons
    simp only [lendArgs] at hl
    obtain ⟨⟨c, j⟩, hc, hl⟩ := bnd_eq_some.1 hl
    obtain ⟨es, he, hl⟩ := bnd_eq_some.1 hl
    simp only [Option.some.injEq] at hl
    subst hl
    simp only [lendIds] at hk
    cases r1 with
    | agg _ ws hlw hr =>
      obtain ⟨q1, q2⟩ := lendCells_rep I K cs ws.toList i c j ⟨by simpa using hlw, fun k x u hx hu => hr k x u hx (by simpa using hu)⟩ hc (fun k p hp => hk k p (by
        rw [List.getElem?_append_left (by exact (List.getElem?_eq_some_iff.1 hp).1)]; exact hp))
      refine LRel.cons (.agg _ _ (by have := q1.1; simpa using this) fun k x u hx hu => q1.2 k x u hx (by simpa using hu)) (lendArgs_rep I K as vs j es r2 he (fun k p hp => ?_))
      have := hk ((cellIds cs).length + k) p (by rw [List.getElem?_append_right (by omega), Nat.add_sub_cancel_left]; exact hp)
      rw [q2, Nat.add_assoc]; exact this
  | .undef :: as, us, i, ds, R, hl, hk => plain I K .undef as us i ds R (by simpa only [lendArgs] using hl) rfl hk (fun vs es => lendArgs_rep I K as vs i es)
  | .d x :: as, us, i, ds, R, hl, hk => plain I K (.d x) as us i ds R (by simpa only [lendArgs] using hl) rfl hk (fun vs es => lendArgs_rep I K as vs i es)
  | .sub a b c d :: as, us, i, ds, R, hl, hk => plain I K (.sub a b c d) as us i ds R (by simpa only [lendArgs] using hl) rfl hk (fun vs es => lendArgs_rep I K as vs i es)
  | .ptr a b (c + 1) :: as, us, i, ds, R, hl, hk => plain I K (.ptr a b (c + 1)) as us i ds R (by simpa only [lendArgs] using hl) rfl hk (fun vs es => lendArgs_rep I K as vs i es)
  | .ptr id v 0 :: as, us, i, ds, R, hl, hk => by
    obtain ⟨u, vs, rfl, r1, r2⟩ := R.uncons
    simp only [lendArgs] at hl
    obtain ⟨es, he, hl⟩ := bnd_eq_some.1 hl
    simp only [Option.some.injEq] at hl
    subst hl
    exact LRel.cons (ptr_lent K (by have := hk 0 (id, v) (by simp [lendIds]); simpa using this) r1)
      (lendArgs_rep I K as vs (i + 1) es r2 he (fun k p hp => by have := hk (k + 1) p (by simpa [lendIds] using hp); rwa [show i + 1 + k = i + (k + 1) by omega]))
  | .innp a b c d :: as, us, i, ds, R, hl, hk => plain I K (.innp a b c d) as us i ds R (by simpa only [lendArgs] using hl) rfl hk (fun vs es => lendArgs_rep I K as vs i es)
  | .tuple x :: as, us, i, ds, R, hl, hk => plain I K (.tuple x) as us i ds R (by simpa only [lendArgs] using hl) rfl hk (fun vs es => lendArgs_rep I K as vs i es)
  | .clo f x y :: as, us, i, ds, R, hl, hk => plain I K (.clo f x y) as us i ds R (by simpa only [lendArgs] using hl) rfl hk (fun vs es => lendArgs_rep I K as vs i es)
where
  plain (I : Inv n0 M F β U O w.heap) (K : LendHyp F β w O' O ids Ls) (x : AV) (as : List AV) (us : List Value) (i : Nat) (ds : List AV) (R : LRel F w.heap β U (x :: as) us)
      (hl : (bnd (view O' 6 x) fun d => bnd (lendArgs O' i as) fun r => some (ofD d :: r)) = some ds) (hc : lendIds (x :: as) = lendIds as)
      (hk : ∀ k p, (lendIds (x :: as))[k]? = some p → ids[i + k]? = some p)
      (ih : ∀ (vs : List Value) (es : List AV), LRel F w.heap β U as vs → lendArgs O' i as = some es → (∀ k p, (lendIds as)[k]? = some p → ids[i + k]? = some p) →
        LRel (FF F w Ls) w.heap (lentB Ls) (· = 0) es vs) : LRel (FF F w Ls) w.heap (lentB Ls) (· = 0) ds us := by
    obtain ⟨u, vs, rfl, r1, r2⟩ := R.uncons
    obtain ⟨d, hd, hl⟩ := bnd_eq_some.1 hl
    obtain ⟨es, he, hl⟩ := bnd_eq_some.1 hl
    simp only [Option.some.injEq] at hl
    subst hl
    rw [hc] at hk
    exact LRel.cons (ofD_rep (view_rep I K.hF (fun _ h => h) K.hO 6 x u d r1 hd)) (ih vs es r2 he hk)

/-- The callee's invariant at its start. -/
theorem start_inv (I : Inv n0 M F β U O w.heap) {obs : List Ob} (hl : Ls.length = ids.length) (hlo : obs.length = ids.length) (hnd : (ids.map (·.1)).Nodup)
    (h1 : ∀ (i : Nat) (p : Nat × Nat) (L : Loc) (ob : Ob), ids[i]? = some p → Ls[i]? = some L → obs[i]? = some ob → β p.1 = some (p.2, L) ∧ ORep F w.heap β U L ob ∧ flatOb ob = true) :
    Inv w.heap.size (lentM Ls) (FF F w Ls) (lentB Ls) (· = 0) (lentO obs) w.heap := by
  have hβ : ∀ id v L, lentB Ls id = some (v, L) → 100000 ≤ id ∧ v = 0 ∧ Ls[id - 100000]? = some L := by
    intro id v L h
    simp only [lentB] at h
    split at h
    · rename_i hge
      simp only [Option.map_eq_some_iff, Prod.mk.injEq] at h
      obtain ⟨L', hL', rfl, rfl⟩ := h
      exact ⟨hge, rfl, hL'⟩
    · simp at h
  have full : ∀ (i : Nat) (L : Loc), Ls[i]? = some L → ∃ (p : Nat × Nat) (ob : Ob), ids[i]? = some p ∧ obs[i]? = some ob ∧ β p.1 = some (p.2, L) ∧ ORep F w.heap β U L ob ∧ flatOb ob = true := by
    intro i L hL
    have hi : i < ids.length := by rw [← hl]; exact (List.getElem?_eq_some_iff.1 hL).1
    exact ⟨ids[i], obs[i], by simp [hi], by simp [hlo, hi], h1 i ids[i] L obs[i] (by simp [hi]) hL (by simp [hlo, hi])⟩
  have hlow : ∀ b, F.p b → FF F w Ls b := by
    intro b hb
    have hFb := I.low b hb
    refine ⟨I.lt b hFb, fun ⟨L, hL, hbL⟩ => ?_⟩
    obtain ⟨i, hi, rfl⟩ := List.mem_iff_getElem.1 hL
    obtain ⟨p, _, _, _, hp1, _⟩ := full i Ls[i] (by simp [hi])
    exact (I.out _ _ _ hp1 b hbL).1 hFb
  refine ⟨?_, ?_, ?_, ?_, ?_, fun b hb => hb.1, Nat.le_refl _, hlow⟩
  · intro id v ob hO
    simp only [lentO] at hO
    split at hO
    · rename_i hge
      simp only [Option.map_eq_some_iff, Prod.mk.injEq] at hO
      obtain ⟨o, ho, rfl, rfl⟩ := hO
      have hi : id - 100000 < Ls.length := by rw [hl, ← hlo]; exact (List.getElem?_eq_some_iff.1 ho).1
      obtain ⟨p, ob', _, ho', _, hr, hf⟩ := full (id - 100000) Ls[id - 100000] (by simp [hi])
      rw [ho] at ho'
      simp only [Option.some.injEq] at ho'; subst ho'
      exact ⟨Ls[id - 100000], by simp [lentB, hge, hi], hr.flat (fun b hb => ⟨hlow b hb, hb⟩) hf⟩
    · simp at hO
  · intro id v L h
    obtain ⟨hge, rfl, hL⟩ := hβ id v L h
    obtain ⟨p, ob, _, ho, _⟩ := full _ L hL
    exact ⟨ob, by simp [lentO, hge, ho]⟩
  · exact fun id v L h => (hβ id v L h).2.1
  · intro id v L id2 v2 L2 h h2 hne b hb hb2
    obtain ⟨hge, rfl, hL⟩ := hβ id v L h
    obtain ⟨hge2, rfl, hL2⟩ := hβ id2 v2 L2 h2
    obtain ⟨p, _, hp, _, hp1, _⟩ := full _ L hL
    obtain ⟨p2, _, hp2, _, hp3, _⟩ := full _ L2 hL2
    refine I.disj _ _ _ _ _ _ hp1 hp3 (fun e => hne ?_) b hb hb2
    have n1 : (ids.map (·.1))[id - 100000]? = some p.1 := by simp [hp]
    have n2 : (ids.map (·.1))[id2 - 100000]? = some p2.1 := by simp [hp2]
    rw [e] at n1
    have hi1 := (List.getElem?_eq_some_iff.1 n1)
    have hi2 := (List.getElem?_eq_some_iff.1 n2)
    have := (List.getElem_inj hnd (h₀ := hi1.1) (h₁ := hi2.1)).1 (by rw [hi1.2, hi2.2])
    omega
  · intro id v L h b hb
    obtain ⟨hge, rfl, hL⟩ := hβ id v L h
    obtain ⟨p, _, hp, _, hp1, _⟩ := full _ L hL
    have hM : lentM Ls b := ⟨L, List.mem_of_getElem? hL, hb⟩
    exact ⟨fun hF => hF.2 hM, (I.out _ _ _ hp1 b hb).2.1, .inr hM⟩
end
end Go.Proofs.YtnfhglplafmfiaaGreatE

namespace Go.Proofs.YtnfhglplafmfiaaGreatE
set_option linter.unusedSectionVars false
set_option linter.unusedSimpArgs false
set_option linter.unusedVariables false
open Go
set_option linter.unusedSectionVars false

section
variable {P : Program} {n0 : Nat} {M : Nat → Prop} {F : Frz} {β : Beta} {U : Nat → Prop} {O : Nat → Option (Nat × Ob)} {look : Nat → Option AV} {a : Act} {w : World} {ver : Nat} {h : Heap}
variable {cx : Cx} (hP : cx.P = P) (H : Hyp n0 M F β U O look a w ver) {out : Out} {dst : Option Tmp} {ty : TypeId} {pos : String} {aft : Array Edge} {gd : Option (Nat × Bool)}

theorem viewArgs_rep (I : Inv n0 M F β U O w.heap) : ∀ (as : List AV) (us : List Value) (ds : List D), LRel F w.heap β U as us → mapO (view O 6) as = some ds →
    LRel (FF F w []) w.heap (lentB []) (· = 0) (ds.map ofD) us := by
  intro as us ds R hm
  obtain ⟨k1, k2⟩ := mapO_spec hm
  refine ⟨by rw [List.length_map, ← k1]; exact R.1, fun i x u hx hu => ?_⟩
  simp only [List.getElem?_map, Option.map_eq_some_iff] at hx
  obtain ⟨d, hd, rfl⟩ := hx
  obtain ⟨y, hy, hf⟩ := mapO_get hm hd
  refine ofD_rep (view_rep I (F' := FF F w []) (O' := O) (fun b hb => ⟨I.lt b hb, fun ⟨L, hL, _⟩ => by simp at hL⟩) (fun _ h => h) (fun id v ob hO => ⟨hO, fun L hL b hb => ⟨(I.out id v L hL b hb).2.1, fun ⟨L, hL, _⟩ => by simp at hL⟩⟩) 6 y u d (R.2 i y u hy hu) hf)

theorem wk1_rep {x : D} {v : Value} (r : DRep F h x v) : DRep F h (wk1 x) v := by
  cases r with
  | pin cells A len cap vs hl hc hv hm hr =>
    exact .sl 1 _ _ _ _ vs (by omega) hc hv (fun i u hu => (hm i u hu).imp fun b hb => hb.imp fun off h => ⟨h.1, h.2.1.1, h.2.2⟩) (fun i x u hx hu => by
      obtain ⟨q1, q2⟩ := hr i x u hx hu
      rw [q2]; exact pv_rep q1)
  | undef v => exact .undef v
  | int k n => exact .int k n
  | bool b => exact .bool b
  | str s => exact .str s
  | nil => exact .nil
  | sl s cells A len cap vs a b c d e => exact .sl s cells A len cap vs a b c d e
  | cellp cells b off vs c d e => exact .cellp cells b off vs c d e
  | agg cells vs a b => exact .agg cells vs a b
  | clo f a b va vb c d e g => exact .clo f a b va vb c d e g
theorem wk_rep {x : D} {v : Value} (r : DRep F h x v) : DRep F h (wk x) v := by
  cases x with
  | sl n cells =>
    cases r with
    | sl s cells A len cap vs hl hc hv hm hr =>
      refine .sl n _ A len cap vs (by simpa using hl) hc (by simpa using hv) hm (fun i y u hy hu => ?_)
      simp only [List.getElem?_map, Option.map_eq_some_iff] at hy
      obtain ⟨z, hz, rfl⟩ := hy
      exact wk1_rep (hr i z u hz hu)
  | pin cells => exact wk1_rep r
  | _ => exact r

/-- A result's rows as data. -/
theorem frzV_rep {good : Bool} {r : CRes} {Z : Nat → Prop} {G : Frz} {β' : Beta} (I' : Inv n0 M ⟨Z, Z⟩ β' (· = 0) (resO r) h) (hZG : ∀ b, Z b → G b ∧ G.p b) (hfp : ∀ j L, β' j = some (0, L) → ∀ b ∈ L.fp, G b ∧ G.p b) (hn : r.obs.length ≤ 16) :
    ∀ (k : Nat) (x y : AV) (v : Value), frzV good r.obs k x = some y → VRep ⟨Z, Z⟩ h β' (· = 0) x v → VRep G h β U y v := by
  intro k
  induction k with
  | zero => intro x y v hx; simp [frzV] at hx
  | succ k ih =>
    have list : ∀ {xs ys : List AV}, mapO (frzV good r.obs k) xs = some ys → ∀ (us : List Value), (∀ (i : Nat) (x : AV) (u : Value), xs[i]? = some x → us[i]? = some u → VRep ⟨Z, Z⟩ h β' (· = 0) x u) →
        xs.length = ys.length ∧ ∀ (i : Nat) (y : AV) (u : Value), ys[i]? = some y → us[i]? = some u → VRep G h β U y u := by
      intro xs ys hm us hr
      obtain ⟨k1, k2⟩ := mapO_spec hm
      refine ⟨k1, fun i y u hy hu => ?_⟩
      obtain ⟨x, hx, hf⟩ := mapO_get hm hy
      exact ih x y u hf (hr i x u hx hu)
    intro x y v hx rv
    have hZ1 : ∀ b, (Frz.mk Z Z) b → G b := fun b hb => (hZG b hb).1
    have hZ2 : ∀ b, (Frz.mk Z Z).p b → G.p b := fun b hb => (hZG b hb).2
    cases rv with
    | d x v hd =>
      have hd' := hd.ext hZ1 hZ2 (fun _ _ => rfl)
      simp only [frzV, Option.some.injEq] at hx
      subst hx
      cases good with
      | true => exact .d _ _ hd'
      | false => exact .d _ _ (wk_rep hd')
    | ptr j r0 off v ho hu hv =>
      simp only [frzV] at hx
      split at hx
      · rename_i hc0
        obtain ⟨hr0, rfl, hg⟩ := hc0
        subst hr0
        split at hx
        · rename_i w' rows cells hob
          have hj : ¬ (100000 ≤ j) := by have := (List.getElem?_eq_some_iff.1 hob).1; omega
          obtain ⟨L, hL, l0, l, l', hi2, ⟨c, e, hh, hs, g1⟩, g2, g4, g5⟩ := I'.objs j 0 _ (show resO r j = some (0, .per w' rows cells) by simp [resO, hj, hob])
          obtain ⟨ds, hds, hx⟩ := bnd_eq_some.1 hx
          have hx := Option.some.inj hx
          subst hx
          rw [hv L hL]
          obtain ⟨k1, k2⟩ := mapO_spec hds
          have hle : L.len * w' ≤ L.cap * w' := Nat.mul_le_mul_right _ l'
          let us : List Value := (List.range cells.length).map fun j => c.getD (L.base + j) undef
          have hus : ∀ (j : Nat) (u : Value), us[j]? = some u → j < cells.length ∧ c[L.base + j]? = some u := by
            intro j u hu
            simp only [us, List.getElem?_map, Option.map_eq_some_iff] at hu
            obtain ⟨k, hk, rfl⟩ := hu
            have hjn : j < cells.length := by have := (List.getElem?_eq_some_iff.1 hk).1; simpa using this
            have : k = j := by simpa [hjn] using hk.symm
            subst this
            have : L.base + k < c.size := by omega
            exact ⟨hjn, by simp [Array.getD, this]⟩
          refine .d _ _ (.cellp _ L.block (L.base + 0) us (by simp [us, ← k1]) (fun i u hu => ?_) (fun i y u hy hu => ?_))
          · obtain ⟨hj, hc⟩ := hus i u hu
            exact ⟨L.block, L.base, rfl, (hfp j L hL _ (by simp [g4])).1, (cellAt_of hh).trans hc⟩
          · simp only [List.getElem?_map, Option.map_eq_some_iff] at hy
            obtain ⟨z, hz, rfl⟩ := hy
            obtain ⟨hj, hc⟩ := hus i u hu
            obtain ⟨p, hp, hf⟩ := mapO_get hds hz
            obtain ⟨u', hu', hr⟩ := g1 i p hp
            have : u = u' := by rw [hu'] at hc; exact (Option.some.inj hc).symm
            subst this
            refine wk_rep ?_
            cases p with
            | d x =>
              simp only [pcD, Option.some.injEq] at hf
              subst hf
              exact hr.1.ext hZ1 hZ2 (fun _ _ => rfl)
            | r k =>
              simp only [pcD] at hf
              obtain ⟨row, hrow, hf⟩ := bnd_eq_some.1 hf
              simp only [Option.some.injEq] at hf
              subst hf
              refine rowV_drep hZ1 hZ2 (g2 k row u hrow hr) fun b hb => (hfp j L hL b ?_).1
              rw [g4]
              exact List.mem_cons_of_mem _ (List.mem_flatMap.2 ⟨u, List.mem_of_getElem? hr, hb⟩)
        · simp at hx
      · simp at hx
    | own j r0 v ho hu hv =>
      simp only [frzV] at hx
      split at hx
      · rename_i hr0
        subst hr0
        have hres : ∀ ob, r.obs[j]? = some ob → ∃ L, β' j = some (0, L) ∧ ORep ⟨Z, Z⟩ h β' (· = 0) L ob := by
          intro ob hob
          have hj : ¬ (100000 ≤ j) := by have := (List.getElem?_eq_some_iff.1 hob).1; omega
          exact I'.objs j 0 ob (by simp [resO, hj, hob])
        split at hx
        · rename_i cells hob
          obtain ⟨L, hL, f, l, hB⟩ := hres _ hob
          have hval := hv L hL
          have hfb := hfp j L hL L.block (by simp [f])
          have hlc : cells.length ≤ L.cap := by obtain ⟨_, _, _, _, h3, _⟩ := hB; exact h3
          cases good with
          | true =>
            simp only [if_true] at hx
            obtain ⟨hpl, hx⟩ := ite_some.1 hx
            have hx := Option.some.inj hx
            subst hx
            rw [hval]
            obtain ⟨c, e, hh, hs, _, hcs⟩ := hB
            rw [List.all_eq_true] at hpl
            refine .d _ _ (.pin cells _ _ _ (cells.map pv) l.symm (by omega) (by simp) (fun i u hu => ?_) (fun i x u hx hu => ?_))
            · simp only [List.getElem?_map, Option.map_eq_some_iff] at hu
              obtain ⟨d, hd, rfl⟩ := hu
              obtain ⟨_, v', q2, q3⟩ := hcs i d hd
              rw [plain_pv q3 (hpl d (List.mem_of_getElem? hd))] at q2
              exact ⟨L.block, L.base, rfl, hfb, (cellAt_of hh).trans q2⟩
            · simp only [List.getElem?_map, hx, Option.map_some, Option.some.injEq] at hu
              exact ⟨hpl x (List.mem_of_getElem? hx), hu.symm⟩
          | false =>
            simp only [Bool.false_eq_true, if_false, Option.some.injEq] at hx
            subst hx
            rw [hval, l]
            exact .d _ _ (wk_rep (rowB_whole hZ1 hZ2 hB hfb.1))
        · rename_i op rows hob
          cases good with
          | true => simp at hx
          | false =>
            simp only [Bool.false_eq_true, if_false, Option.some.injEq] at hx
            subst hx
            obtain ⟨L, hL, l, l', c, e, inner, hh, hs, hi', g1, g2, g3, g4, g5⟩ := hres _ hob
            rw [hv L hL]
            refine .d _ _ (.sl 1 _ _ _ _ inner (by simp [l]) l' (by simp [hi']) (fun i u hu => ⟨L.block, L.base, rfl, (hfp j L hL _ (by simp [g4])).1, (cellAt_of hh).trans (g1 i u hu)⟩) fun i y u hy hu => ?_)
            simp only [List.getElem?_map, Option.map_eq_some_iff] at hy
            obtain ⟨row, hrow, rfl⟩ := hy
            refine rowV_drep hZ1 hZ2 (g2 i row u hrow hu) fun b hb => (hfp j L hL b ?_).1
            rw [g4]
            exact List.mem_cons_of_mem _ (List.mem_flatMap.2 ⟨u, List.mem_of_getElem? hu, hb⟩)
        · simp at hx
      · rename_i hr0
        exact absurd hu hr0
    | agg cells vs hl hr =>
      simp only [frzV] at hx
      obtain ⟨ys, hys, hx⟩ := bnd_eq_some.1 hx
      have hx := Option.some.inj hx
      subst hx
      obtain ⟨k1, k2⟩ := list hys vs.toList (fun i x u hx hu => hr i x u hx (by simpa using hu))
      exact .agg _ _ (by omega) fun i x u hx hu => k2 i x u hx (by simpa using hu)
    | tuple cells vs hl hr =>
      simp only [frzV] at hx
      obtain ⟨ys, hys, hx⟩ := bnd_eq_some.1 hx
      have hx := Option.some.inj hx
      subst hx
      obtain ⟨k1, k2⟩ := list hys vs.toList (fun i x u hx hu => hr i x u hx (by simpa using hu))
      exact .tuple _ _ (by omega) fun i x u hx hu => k2 i x u hx (by simpa using hu)
    | _ => simp [frzV] at hx

theorem freeze (I : Inv n0 M F β U O w.heap) {Z : Nat → Prop} (hZ1 : ∀ b, F.p b → Z b) (hZ2 : ∀ b, Z b → F.p b ∨ w.heap.size ≤ b) {good : Bool} {r : CRes} {w' : World} {val : Value} {β' : Beta} {y : AV}
    (S : Stp w.heap.size (lentM []) w w') (V : VRep ⟨Z, Z⟩ w'.heap β' (· = 0) r.val val) (I' : Inv w.heap.size (lentM []) ⟨Z, Z⟩ β' (· = 0) (resO r) w'.heap) (hn : r.obs.length ≤ 16) (hy : frzV good r.obs 3 r.val = some y) :
    Post n0 M F β U O w ver { val := y } val w' := by
  have hM : ∀ b, ¬ lentM [] b := fun b ⟨L, hL, _⟩ => by simp at hL
  let Z1 : Nat → Prop := fun b => Z b ∨ ∃ j L, β' j = some (0, L) ∧ b ∈ L.fp
  let G : Frz := ⟨fun b => F b ∨ Z1 b, Z1⟩
  have hnew : ∀ b, Z1 b → F.p b ∨ w.heap.size ≤ b := by
    intro b hb
    rcases hb with hb | ⟨j, L, hL, hb⟩
    · exact hZ2 b hb
    · rcases (I'.out j 0 L hL b hb).2.2 with h | h
      · exact .inr h
      · exact absurd h (hM b)
  have hblk : ∀ b, b < w.heap.size → w'.heap[b]? = w.heap[b]? := fun b hb => S.block b hb (hM b)
  have E : Ext F w.heap β U G w'.heap β U :=
    ⟨fun _ h => .inl h, fun b hb => hblk b (I.lt b hb), fun _ h => h, fun _ _ L _ h => ⟨L, h, rfl, rfl, rfl, rfl, rfl⟩, fun b hb => .inl (hZ1 b hb), hnew⟩
  refine ⟨G, β, U, ⟨?_, I.only, I.used, I.disj, ?_, ?_, Nat.le_trans I.le S.size, fun b hb => .inr hb⟩, frzV_rep (G := G) I' (fun b hb => ⟨.inr (.inl hb), .inl hb⟩) (fun j L hL b hb => ⟨.inr (.inr ⟨j, L, hL, hb⟩), .inr ⟨j, L, hL, hb⟩⟩) hn 3 r.val y val hy V, E, fun v h => .inl h, ?_⟩
  · intro id v ob hO
    obtain ⟨L, hL, hr⟩ := I.objs id v ob hO
    exact ⟨L, hL, hr.ext E fun b hb => hblk b (I.out id v L hL b hb).2.1⟩
  · intro id v L hL b hb
    obtain ⟨o1, o2, o3⟩ := I.out id v L hL b hb
    exact ⟨fun h => h.elim o1 (fun h => (hnew b h).elim (fun hp => o1 (I.low b hp)) (fun hs => by omega)), Nat.lt_of_lt_of_le o2 S.size, o3⟩
  · intro b hb
    rcases hb with hb | hb | ⟨j, L, hL, hb⟩
    · exact Nat.lt_of_lt_of_le (I.lt b hb) S.size
    · exact I'.lt b hb
    · exact (I'.out j 0 L hL b hb).2.1
  · exact ⟨S.os, S.tape, S.output, S.size, fun b hb _ => hblk b (Nat.lt_of_lt_of_le hb I.le)⟩

/-- A call, as the evaluator makes it. -/
theorem callOp_sound (I : Inv n0 M F β U O w.heap) (hver : ¬ U ver) (hS : CallSound cx.P cx.call) {k : FuncId} {args : List AV} {vals : Array Value} (R : LRel F w.heap β U args vals.toList)
    (h : evalCallOp cx O dst ver k args = some out) :
    (Calls cx.P k vals w fun e w' => ∃ val, e = .returned val ∧ Post n0 M F β U O w ver out val w') ∧ ∃ fn, cx.P.funcs[k]? = some fn ∧ (fn.name == "runtime.NumGoroutine") = false ∧ fn.body.isNone = false := by
  unfold evalCallOp at h
  split at h
  · rename_i hlend
    simp only at h
    obtain ⟨hnd, h1⟩ := ite_some.1 h
    obtain ⟨obs, hobs, h2⟩ := bnd_eq_some.1 h1
    obtain ⟨as, has, h3⟩ := bnd_eq_some.1 h2
    obtain ⟨r, hr, h4⟩ := bnd_eq_some.1 h3
    obtain ⟨t, ht, h5⟩ := bnd_eq_some.1 h4
    obtain ⟨⟨hn, href, hfo, hfl⟩, h6⟩ := ite_some.1 h5
    have h6 := Option.some.inj h6
    subst h6
    clear h h1 h2 h3 h4 h5
    obtain ⟨g, hfn⟩ := hS k as obs r hr
    refine ⟨?_, hfn⟩
    generalize hids : lendIds args = ids at hnd hobs has href ⊢
    -- where the lent rows lie
    obtain ⟨o1, o2⟩ := mapO_spec hobs
    have hob : ∀ (i : Nat) (p : Nat × Nat), ids[i]? = some p → ∃ ob L, obs[i]? = some ob ∧ O p.1 = some (p.2, ob) ∧ β p.1 = some (p.2, L) ∧ ORep F w.heap β U L ob ∧ flatOb ob = true := by
      intro i p hp
      have hi : i < obs.length := by rw [← o1]; exact (List.getElem?_eq_some_iff.1 hp).1
      have hf := o2 i p obs[i] hp (by simp [hi])
      unfold lendOb at hf
      obtain ⟨ob, hat, hf⟩ := bnd_eq_some.1 hf
      obtain ⟨hfl, hf⟩ := ite_some.1 hf
      have hf := Option.some.inj hf
      obtain ⟨L, hL, hrep⟩ := I.objs _ _ _ (at_iff.1 hat)
      exact ⟨ob, L, by simp [hi, hf], at_iff.1 hat, hL, hrep, hfl⟩
    let Ls : List Loc := ids.map fun p => match β p.1 with | some (_, L) => L | none => ⟨0, 0, 0, 0, [], []⟩
    have hLs : ∀ (i : Nat) (p : Nat × Nat), ids[i]? = some p → ∃ L, Ls[i]? = some L ∧ β p.1 = some (p.2, L) := by
      intro i p hp
      obtain ⟨ob, L, _, _, hL, _⟩ := hob i p hp
      exact ⟨L, by simp [Ls, hp, hL], hL⟩
    have hlen : Ls.length = ids.length := by simp [Ls]
    have hLs' : ∀ (i : Nat) (p : Nat × Nat) (L : Loc), ids[i]? = some p → Ls[i]? = some L → β p.1 = some (p.2, L) := by
      intro i p L hp hL
      obtain ⟨L', hL', hb⟩ := hLs i p hp
      rw [hL] at hL'
      simp only [Option.some.injEq] at hL'; subst hL'; exact hb
    have hMin : ∀ b, lentM Ls b → ∃ (i : Nat) (p : Nat × Nat) (L : Loc), ids[i]? = some p ∧ β p.1 = some (p.2, L) ∧ b ∈ L.fp := by
      intro b ⟨L, hL, hb⟩
      obtain ⟨i, hi, rfl⟩ := List.mem_iff_getElem.1 hL
      have hi' : i < ids.length := by omega
      exact ⟨i, ids[i], Ls[i], by simp [hi'], hLs' i ids[i] Ls[i] (by simp [hi']) (by simp [hi]), hb⟩
    have S0 := start_inv I (ids := ids) (Ls := Ls) (obs := obs) hlen o1.symm hnd (fun i p L ob hp hL hobs => by
      obtain ⟨ob', L', ho', _, hL', hrep, hfl⟩ := hob i p hp
      rw [hobs] at ho'
      simp only [Option.some.injEq] at ho'; subst ho'
      have := hLs' i p L hp hL
      rw [hL'] at this
      simp only [Option.some.injEq, Prod.mk.injEq, true_and] at this; subst this
      exact ⟨hL', hrep, hfl⟩)
    have K : LendHyp F β w (without O (ids.map (·.1))) O ids Ls := by
      refine ⟨fun b hb => ⟨I.lt b hb, fun hM => ?_⟩, fun id v ob hO => ?_, hLs⟩
      · obtain ⟨i, p, L, _, hL, hbL⟩ := hMin b hM
        exact (I.out _ _ _ hL b hbL).1 hb
      · unfold without at hO
        split at hO
        · simp at hO
        · rename_i hni
          refine ⟨hO, fun L hL b hb => ⟨(I.out id v L hL b hb).2.1, fun hM => ?_⟩⟩
          obtain ⟨i, p, L2, hp, hL2, hb2⟩ := hMin b hM
          refine I.disj _ _ _ _ _ _ hL hL2 (fun e => hni ?_) b hb hb2
          rw [e]; exact List.mem_map.2 ⟨p, List.mem_of_getElem? hp, rfl⟩
    have A0 := lendArgs_rep I K args vals.toList 0 as R has (fun k p hp => by rw [hids] at hp; simpa using hp)
    refine (g w (FF F w Ls) vals Ls (by rw [hlen, o1]) S0 A0).mono fun e w' hpost => ?_
    obtain ⟨val, β', Z, rfl, hS', hZ1, hZ2, V, I', hsame⟩ := hpost
    exact ⟨val, rfl, merge I hver hZ1 hZ2 hlen hLs' hnd hS' V I' hsame hn href hfo hfl⟩
  · obtain ⟨ds, hds, h2⟩ := bnd_eq_some.1 h
    obtain ⟨r, hr, h3⟩ := bnd_eq_some.1 h2
    obtain ⟨t, ht, h4⟩ := bnd_eq_some.1 h3
    obtain ⟨g, hfn⟩ := hS k _ [] r hr
    refine ⟨?_, hfn⟩
    have S0 := start_inv I (ids := []) (Ls := []) (obs := []) rfl rfl (by simp) (fun i p L ob hp => by simp at hp)
    refine (g w (FF F w []) vals [] rfl S0 (viewArgs_rep I args vals.toList ds R hds)).mono fun e w' hpost => ?_
    obtain ⟨val, β', Z, rfl, hS', hZ1, hZ2, V, I', hsame⟩ := hpost
    refine ⟨val, rfl, ?_⟩
    by_cases hfz : t ∈ cx.ann.frz ∨ t ∈ cx.ann.dat
    · rw [if_pos hfz] at h4
      obtain ⟨hle, h5⟩ := ite_some.1 h4
      obtain ⟨y, hy, h6⟩ := bnd_eq_some.1 h5
      have h6 := Option.some.inj h6
      subst h6
      exact freeze I hZ1 hZ2 hS' V I' hle.1 hy
    rw [if_neg hfz] at h4
    obtain ⟨⟨hn, href, hfo, hle⟩, h5⟩ := ite_some.1 h4
    have h5 := Option.some.inj h5
    subst h5
    have hl0 : r.lent = [] := by simpa using hle
    have := merge I hver hZ1 hZ2 (ids := []) (Ls := []) (t := t) rfl (fun i p L hp => by simp at hp) (by simp) hS' V I' hsame hn href hfo (by simp [hl0])
    simpa [lentBack] using this

include hP H

theorem op_callf {f : Operand} {args : Array Operand} {tys : Array TypeId} (hS : CallSound P cx.call) (h : evalOp cx look O ver ⟨dst, .call ⟨.value f, args, tys⟩, ty, pos, aft, gd⟩ = some out) :
    Does P ⟨dst, .call ⟨.value f, args, tys⟩, ty, pos, aft, gd⟩ a w (Post n0 M F β U O w ver out) := by
  subst hP
  simp only [evalOp] at h
  obtain ⟨xs, hxs, h1⟩ := bnd_eq_some.1 h
  obtain ⟨fv, hfv, h2⟩ := bnd_eq_some.1 h1
  clear h h1
  have R := args_rep H hxs
  have rf := opnd_rep H hfv
  have fin : ∀ {k : FuncId} {p q : List AV} {vp vq : Array Value}, a.eval f = .func (.func k) vp vq → LRel F w.heap β U p vp.toList → LRel F w.heap β U q vq.toList →
      evalCallOp cx O dst ver k (p ++ xs ++ q) = some out → Does cx.P ⟨dst, .call ⟨.value f, args, tys⟩, ty, pos, aft, gd⟩ a w (Post n0 M F β U O w ver out) := by
    intro k p q vp vq he Rp Rq hc
    have Rall : LRel F w.heap β U (p ++ xs ++ q) (vp ++ args.map a.eval ++ vq).toList := by
      simpa using (Rp.append R).append Rq
    obtain ⟨hcall, fn, hfn, hname, hbody⟩ := callOp_sound H.I H.ver hS Rall hc
    refine .inr (.inr ⟨k, vp ++ args.map a.eval ++ vq, ?_, hcall⟩)
    have hn' : ¬ fn.name = "runtime.NumGoroutine" := by simpa using hname
    have hb' : ¬ fn.body = none := by intro e; simp [e] at hbody
    simp [execOp, resolve, he, Deferred.ofValue, invoke, callFunc, hfn, hn', hb']
  generalize he : a.eval f = v at rf
  split at h2
  · rename_i k p q
    cases rf with
    | d _ _ hd =>
      cases hd with
      | clo _ _ _ vp vq hp hq hrp hrq =>
        refine fin he ⟨by simpa using hp, fun i x u hx hu => ?_⟩ ⟨by simpa using hq, fun i x u hx hu => ?_⟩ h2
        · simp only [List.getElem?_map, Option.map_eq_some_iff] at hx
          obtain ⟨y, hy, rfl⟩ := hx
          exact .d _ _ (hrp i y u hy (by simpa using hu))
        · simp only [List.getElem?_map, Option.map_eq_some_iff] at hx
          obtain ⟨y, hy, rfl⟩ := hx
          exact .d _ _ (hrq i y u hy (by simpa using hu))
  · rename_i k p q
    cases rf with
    | clo _ _ _ vp vq hp hq hrp hrq =>
      exact fin he ⟨by simpa using hp, fun i x u hx hu => hrp i x u hx (by simpa using hu)⟩ ⟨by simpa using hq, fun i x u hx hu => hrq i x u hx (by simpa using hu)⟩ h2
  · simp at h2

/-- Every operation that the evaluator takes. -/
theorem op_sound {o : Oper} (hS : CallSound P cx.call) (h : evalOp cx look O ver o = some out) : Does P o a w (Post n0 M F β U O w ver out) := by
  obtain ⟨dst, op, ty, pos, aft, gd⟩ := o
  cases op with
  | move x => exact op_move H h
  | assign x => exact op_assign H h
  | pick c x y => exact op_pick H h
  | alloc e => exact op_alloc hP H h
  | box e x => exact op_box H h
  | build t p => exact op_build hP H h
  | buildSlice t n p => exact op_buildSlice hP H h
  | load t x => exact op_load hP H h
  | store t x y => exact op_store hP H h
  | binOp op t x y t2 => exact op_binOp hP H h
  | unOp op t x => exact op_unOp H h
  | convert s t x => exact op_convert hP H h
  | makeSlice t x y => exact op_makeSlice hP H h
  | slice t x lo hi mx => exact op_slice hP H h
  | fieldAddr s x f => exact op_fieldAddr hP H h
  | indexAddr t x y => exact op_indexAddr hP H h
  | index t x y => exact op_index hP H h
  | extract x i => exact op_extract H h
  | field s x f => exact op_field hP H h
  | makeFunc fn x y => exact op_makeFunc H h
  | nilCheck x => exact op_nilCheck H h
  | call c =>
    obtain ⟨callee, args, tys⟩ := c
    cases callee with
    | value f => exact op_callf hP H hS h
    | builtin b => exact op_builtin hP H h
    | invoke r m => simp only [evalOp] at h; obtain ⟨_, _, h⟩ := bnd_eq_some.1 h; simp at h
  | _ => simp [evalOp] at h
end
end Go.Proofs.YtnfhglplafmfiaaGreatE

namespace Go.Proofs.YtnfhglplafmfiaaGreatE
set_option linter.unusedSectionVars false
set_option linter.unusedSimpArgs false
set_option linter.unusedVariables false
open Go
set_option linter.unusedSectionVars false

section
variable {O O' : Nat → Option (Nat × Ob)} {look look' : Nat → Option AV} {cx : Cx}

def Agree (O O' : Nat → Option (Nat × Ob)) (l : List Nat) : Prop := ∀ id ∈ l, O' id = O id

theorem Agree.left {l m : List Nat} (h : Agree O O' (l ++ m)) : Agree O O' l := fun id hi => h id (List.mem_append_left _ hi)
theorem Agree.right {l m : List Nat} (h : Agree O O' (l ++ m)) : Agree O O' m := fun id hi => h id (List.mem_append_right _ hi)

theorem at_congr {id v : Nat} (h : O' id = O id) : at_ O' id v = at_ O id v := by simp only [at_, h]

theorem own_agree {id v n : Nat} (h : Agree O O' (reach O (n + 1) (.own id v))) : O' id = O id := h id (by simp [reach])
theorem ptr_agree {id v k n : Nat} (h : Agree O O' (reach O (n + 1) (.ptr id v k))) : O' id = O id := h id (by simp [reach])
theorem sub_agree {id v k l n : Nat} (h : Agree O O' (reach O (n + 1) (.sub id v k l))) : O' id = O id := h id (by simp [reach])
theorem inn_agree {id v k n : Nat} (h : Agree O O' (reach O (n + 1) (.inn id v k))) : O' id = O id := h id (by simp [reach])
theorem innp_agree {id v k l n : Nat} (h : Agree O O' (reach O (n + 1) (.innp id v k l))) : O' id = O id := h id (by simp [reach])

theorem mapO_congr {α γ : Type} {f g : α → Option γ} {l : List α} (h : ∀ x ∈ l, f x = g x) : mapO f l = mapO g l := by
  induction l with
  | nil => rfl
  | cons x l ih =>
    simp only [mapO]
    rw [h x (by simp), ih (fun y hy => h y (by simp [hy]))]

theorem cell1_congr {n : Nat} {x : AV} (h : Agree O O' (reach O (n + 1) x)) : cell1 O' x = cell1 O x := by
  cases x with
  | ptr id v off => simp only [cell1, at_congr (ptr_agree h)]
  | innp id v i j => simp only [cell1, at_congr (innp_agree h)]
  | d x => cases x <;> rfl
  | _ => rfl

theorem cellsN_congr {n m : Nat} {x : AV} (h : Agree O O' (reach O (n + 1) x)) : cellsN O' m x = cellsN O m x := by
  cases x with
  | ptr id v off => simp only [cellsN, at_congr (ptr_agree h)]
  | d x => cases x <;> rfl
  | _ => rfl

theorem lenA_congr {n : Nat} {x : AV} (h : Agree O O' (reach O (n + 1) x)) : lenA O' x = lenA O x := by
  cases x with
  | own id v => simp only [lenA, at_congr (own_agree h)]
  | sub id v i j => simp only [lenA, at_congr (sub_agree h)]
  | inn id v i => simp only [lenA, at_congr (inn_agree h)]
  | d x => cases x <;> rfl
  | _ => rfl

theorem elemsA_congr {n : Nat} {x : AV} (h : Agree O O' (reach O (n + 1) x)) : elemsA O' x = elemsA O x := by
  cases x with
  | own id v => simp only [elemsA, at_congr (own_agree h)]
  | sub id v i j => simp only [elemsA, at_congr (sub_agree h)]
  | inn id v i => simp only [elemsA, at_congr (inn_agree h)]
  | d x => cases x <;> rfl
  | _ => rfl

theorem rowsOf_congr {n : Nat} {x : AV} (h : Agree O O' (reach O (n + 1) x)) : rowsOf O' x = rowsOf O x := by
  cases x with
  | own id v => simp only [rowsOf, at_congr (own_agree h)]
  | d x => cases x <;> rfl
  | _ => rfl

/-- A larger depth leads to more. -/
theorem view_congr : ∀ (k n : Nat) (x : AV), k ≤ n → Agree O O' (reach O n x) → view O' k x = view O k x
  | 0, _, _, _, _ => rfl
  | k + 1, 0, _, h, _ => by omega
  | k + 1, n + 1, x, hkn, h => by
    have list : ∀ (cs : List AV), (∀ c ∈ cs, Agree O O' (reach O n c)) → mapO (view O' k) cs = mapO (view O k) cs :=
      fun cs hc => mapO_congr fun c hcm => view_congr k n c (by omega) (hc c hcm)
    cases x with
    | own id v =>
      simp only [view, at_congr (own_agree h)]
      split
      · rename_i cells hat
        rw [list cells]
        intro c hc id' hid'
        refine h id' ?_
        have hO := at_iff.1 hat
        simp only [reach, hO, List.mem_cons]
        exact .inr (List.mem_flatMap.2 ⟨c, hc, hid'⟩)
      · rfl
      · rfl
      · rfl
      · rfl
    | sub id v i j => simp only [view, at_congr (sub_agree h)]
    | inn id v i => simp only [view, at_congr (inn_agree h)]
    | ptr id v off =>
      simp only [view, at_congr (ptr_agree h)]
      split
      · rename_i cells hat
        rw [list (cells.drop off)]
        intro c hc id' hid'
        refine h id' ?_
        have hO := at_iff.1 hat
        simp only [reach, hO, List.mem_cons]
        exact .inr (List.mem_flatMap.2 ⟨c, List.mem_of_mem_drop hc, hid'⟩)
      · rfl
      · rfl
    | agg cs =>
      simp only [view]
      rw [list cs]
      intro c hc id' hid'
      exact h id' (by simp only [reach]; exact List.mem_flatMap.2 ⟨c, hc, hid'⟩)
    | clo f a b =>
      simp only [view]
      rw [list a, list b]
      · intro c hc id' hid'
        exact h id' (by simp only [reach]; exact List.mem_append_right _ (List.mem_flatMap.2 ⟨c, hc, hid'⟩))
      · intro c hc id' hid'
        exact h id' (by simp only [reach]; exact List.mem_append_left _ (List.mem_flatMap.2 ⟨c, hc, hid'⟩))
    | _ => rfl

theorem opnd_congr {x : Operand} (h : ∀ t, x = .tmp t → look' t = look t) : opnd look' x = opnd look x := by
  cases x with
  | tmp t => exact h t rfl
  | _ => rfl

theorem reachO_some {x : Operand} {v : AV} (h : opnd look x = some v) : reachO O look x = reach O 9 v := by simp [reachO, h]

theorem without_agree {ids l : List Nat} (h : Agree O O' l) : Agree (without O ids) (without O' ids) l := fun id hi => by
  simp only [without]; split
  · rfl
  · exact h id hi

theorem reach_without {ids : List Nat} : ∀ (n : Nat) (x : AV) (id : Nat), id ∈ reach (without O ids) n x → id ∈ reach O n x
  | 0, _, _, h => by simp [reach] at h
  | n + 1, x, id, h => by
    have list : ∀ (cs : List AV), id ∈ cs.flatMap (reach (without O ids) n) → id ∈ cs.flatMap (reach O n) := by
      intro cs hc
      obtain ⟨c, hc1, hc2⟩ := List.mem_flatMap.1 hc
      exact List.mem_flatMap.2 ⟨c, hc1, reach_without n c id hc2⟩
    have boxes : ∀ (k : Nat), id ∈ (match without O ids k with | some (_, .box cs) => cs.flatMap (reach (without O ids) n) | _ => []) → id ∈ (match O k with | some (_, .box cs) => cs.flatMap (reach O n) | _ => []) := by
      intro k hk
      unfold without at hk
      split at hk
      · rename_i heq
        split at heq
        · simp at heq
        · rw [heq]; exact list _ hk
      · simp at hk
    cases x with
    | own k v => simp only [reach, List.mem_cons] at h ⊢; exact h.imp_right (boxes k)
    | ptr k v o => simp only [reach, List.mem_cons] at h ⊢; exact h.imp_right (boxes k)
    | agg cs => simp only [reach] at h ⊢; exact list cs h
    | tuple cs => simp only [reach] at h ⊢; exact list cs h
    | clo f a b => simp only [reach, List.mem_append] at h ⊢; exact h.imp (list a) (list b)
    | sub => exact h
    | inn => exact h
    | innp => exact h
    | _ => simp [reach] at h

theorem lendCells_congr : ∀ (cs : List AV) (i : Nat), (∀ c ∈ cs, ∃ n, Agree O O' (reach O (n + 6) c)) → lendCells O' i cs = lendCells O i cs
  | [], i, _ => rfl
  | c :: cs, i, h => by
    obtain ⟨n, hn⟩ := h c (by simp)
    have hc := view_congr 6 (n + 6) c (by omega) hn
    have ih := fun i => lendCells_congr cs i (fun x hx => h x (by simp [hx]))
    cases c <;> simp only [lendCells, hc, ih]

theorem lendArgs_congr : ∀ (as : List AV) (i : Nat), (∀ a ∈ as, ∃ n, Agree O O' (reach O (n + 7) a)) → lendArgs O' i as = lendArgs O i as
  | [], i, _ => rfl
  | x :: as, i, h => by
    obtain ⟨n, hx⟩ := h x (by simp)
    have hc := view_congr 6 (n + 7) x (by omega) hx
    have ih := fun i => lendArgs_congr as i (fun y hy => h y (by simp [hy]))
    cases x with
    | agg cs =>
      have hcs := fun i => lendCells_congr cs i (fun c hcm => ⟨n, fun id hid => hx id (by simp only [reach]; exact List.mem_flatMap.2 ⟨c, hcm, hid⟩)⟩)
      simp only [lendArgs, hcs, ih]
    | own id v => simp only [lendArgs, ih]
    | inn id v j => simp only [lendArgs, ih]
    | ptr id v c =>
      cases c with
      | zero => simp only [lendArgs, ih]
      | succ c => simp only [lendArgs, hc, ih]
    | _ => simp only [lendArgs, hc, ih]

theorem cellIds_mem : ∀ (cs : List AV) (p : Nat × Nat), p ∈ cellIds cs → .own p.1 p.2 ∈ cs
  | [], p, h => by simp [cellIds] at h
  | c :: cs, p, h => by
    cases c with
    | own id v =>
      simp only [cellIds, List.mem_cons] at h
      rcases h with rfl | h
      · simp
      · exact List.mem_cons_of_mem _ (cellIds_mem cs p h)
    | _ => exact List.mem_cons_of_mem _ (cellIds_mem cs p h)

theorem lendIds_mem : ∀ (as : List AV) (p : Nat × Nat), p ∈ lendIds as → .own p.1 p.2 ∈ as ∨ (∃ j, .inn p.1 p.2 j ∈ as) ∨ (∃ cs, .agg cs ∈ as ∧ .own p.1 p.2 ∈ cs) ∨ .ptr p.1 p.2 0 ∈ as
  | [], p, h => by simp [lendIds] at h
  | x :: as, p, h => by
    have rest : p ∈ lendIds as → .own p.1 p.2 ∈ (x :: as) ∨ (∃ j, .inn p.1 p.2 j ∈ (x :: as)) ∨ (∃ cs, .agg cs ∈ (x :: as) ∧ .own p.1 p.2 ∈ cs) ∨ .ptr p.1 p.2 0 ∈ (x :: as) := fun h =>
      (lendIds_mem as p h).imp (List.mem_cons_of_mem _) (Or.imp (fun ⟨j, hj⟩ => ⟨j, List.mem_cons_of_mem _ hj⟩) (Or.imp (fun ⟨cs, h1, h2⟩ => ⟨cs, List.mem_cons_of_mem _ h1, h2⟩) (List.mem_cons_of_mem _)))
    cases x with
    | own id v =>
      simp only [lendIds, List.mem_cons] at h
      rcases h with rfl | h
      · exact .inl (by simp)
      · exact rest h
    | inn id v j =>
      simp only [lendIds, List.mem_cons] at h
      rcases h with rfl | h
      · exact .inr (.inl ⟨j, by simp⟩)
      · exact rest h
    | agg cs =>
      simp only [lendIds, List.mem_append] at h
      rcases h with h | h
      · exact .inr (.inr (.inl ⟨cs, by simp, cellIds_mem cs p h⟩))
      · exact rest h
    | ptr id v c =>
      cases c with
      | zero =>
        simp only [lendIds, List.mem_cons] at h
        rcases h with rfl | h
        · exact .inr (.inr (.inr (by simp)))
        · exact rest h
      | succ c => exact rest h
    | _ => exact rest h

theorem evalCallOp_congr {dst : Option Nat} {ver k : Nat} {args : List AV} (h : ∀ x ∈ args, ∃ m, Agree O O' (reach O (m + 8) x)) : evalCallOp cx O' dst ver k args = evalCallOp cx O dst ver k args := by
  unfold evalCallOp
  split
  · have h1 : mapO (lendOb O') (lendIds args) = mapO (lendOb O) (lendIds args) := mapO_congr fun p hp => by
      unfold lendOb
      rw [at_congr]
      rcases lendIds_mem args p hp with hm | ⟨j, hm⟩ | ⟨cs, hm, hmc⟩ | hm
      · obtain ⟨m, hm'⟩ := h _ hm
        exact own_agree hm'
      · obtain ⟨m, hm'⟩ := h _ hm
        exact hm' p.1 (by simp [reach])
      · obtain ⟨m, hm'⟩ := h _ hm
        exact hm' p.1 (by simp only [reach]; exact List.mem_flatMap.2 ⟨_, hmc, by simp [reach]⟩)
      · obtain ⟨m, hm'⟩ := h _ hm
        exact hm' p.1 (by simp [reach])
    have h2 := lendArgs_congr (O := without O ((lendIds args).map (·.1))) (O' := without O' ((lendIds args).map (·.1))) args 0
      (fun a ha => by
        obtain ⟨m, hm⟩ := h a ha
        exact ⟨m + 1, fun id hid => without_agree hm id (reach_without _ a id hid)⟩)
    simp only [h1, h2]
  · rw [mapO_congr fun x hx => by
      obtain ⟨m, hm⟩ := h x hx
      exact view_congr 6 (m + 8) x (by omega) hm]

theorem tableRow_congr {y : AV} (hy : Agree O O' (reach O 9 y)) : tableRow O' y = tableRow O y := by
  unfold tableRow
  split
  · rename_i a va
    rw [at_congr (own_agree hy)]
    split
    · rename_i c hat
      refine rowsOf_congr (n := 7) fun id hid => hy id ?_
      simp only [reach, at_iff.1 hat, List.mem_cons]
      exact .inr (List.mem_flatMap.2 ⟨c, by simp, hid⟩)
    · rfl
  · rfl

theorem place_congr {x : AV} (h : Agree O O' (reach O 9 x)) : place O' x = place O x := by
  cases x with
  | own id v => simp only [place, at_congr (own_agree h)]
  | sub id r i j => simp only [place, at_congr (sub_agree h)]
  | _ => rfl

theorem placeP_congr {x : AV} (h : Agree O O' (reach O 9 x)) : placeP O' x = placeP O x := by
  cases x with
  | own id v => simp only [placeP, at_congr (own_agree h)]
  | sub id r i j => simp only [placeP, at_congr (sub_agree h)]
  | _ => rfl

theorem evalBuiltin_congr {dst : Option Nat} {ver : Nat} {b : Builtin} {tys : List TypeId} {args : List AV} (h : ∀ x ∈ args, Agree O O' (reach O 9 x)) : evalBuiltin cx O' dst ver b tys args = evalBuiltin cx O dst ver b tys args := by
  unfold evalBuiltin
  split
  · rename_i x
    have e := lenA_congr (n := 8) (h x (by simp))
    cases x with
    | d x => cases x <;> rfl
    | _ => simp only [lenC, e]
  · rfl
  · rfl
  · rename_i x y
    have hx := h x (by simp)
    have hy := h y (by simp)
    have e1 := elemsA_congr (n := 8) hy
    have e2 := tableRow_congr hy
    simp only [e1, e2]
    cases x with
    | own id v => simp only [at_congr (own_agree hx)]
    | d x => cases x <;> rfl
    | _ => rfl
  · rfl
  · rename_i x y
    simp only [place_congr (h x (by simp)), elemsA_congr (n := 8) (h y (by simp))]
  · rename_i x
    simp only [place_congr (h x (by simp)), placeP_congr (h x (by simp))]
  · rfl
end
end Go.Proofs.YtnfhglplafmfiaaGreatE

namespace Go.Proofs.YtnfhglplafmfiaaGreatE
set_option linter.unusedSectionVars false
set_option linter.unusedSimpArgs false
set_option linter.unusedVariables false
open Go
set_option linter.unusedSectionVars false

section
variable {O O' : Nat → Option (Nat × Ob)} {look look' : Nat → Option AV} {cx : Cx}

theorem bnd_congr2 {α γ : Type} {x x' : Option α} {f g : α → Option γ} (hx : x' = x) (h : ∀ a, x = some a → f a = g a) : bnd x' f = bnd x g := by
  subst hx
  cases x' with
  | none => rfl
  | some a => exact h a rfl

theorem evalOp_congr {ver : Nat} {o : Oper} (hl : ∀ t, Operand.tmp t ∈ o.op.operands → look' t = look t) (hO : Agree O O' (touch O look o)) : evalOp cx look' O' ver o = evalOp cx look O ver o := by
  have ho : ∀ x ∈ o.op.operands, opnd look' x = opnd look x := fun x hx => opnd_congr fun t ht => hl t (ht ▸ hx)
  clear hl
  obtain ⟨dst, op, ty, pos, aft, gd⟩ := o
  cases op with
  | move x => simp only [evalOp, ho x (by simp [Op.operands])]
  | assign x => simp only [evalOp, ho x (by simp [Op.operands])]
  | pick c x y => simp only [evalOp, ho c (by simp [Op.operands]), ho x (by simp [Op.operands]), ho y (by simp [Op.operands])]
  | alloc e => rfl
  | box e x =>
    have ex := ho x (by simp [Op.operands])
    simp only [touch] at hO
    simp only [evalOp]
    refine bnd_congr2 ex fun z hz => bnd_congr2 rfl fun t ht => ?_
    rw [hz] at hO
    split
    · cases z with
      | agg cs =>
        have key : ∀ m rid rv, cs = [.d m, .own rid rv] → at_ O' rid rv = at_ O rid rv := fun m rid rv e => at_congr (hO rid (by subst e; simp [reach]))
        split
        · rename_i heq
          rw [key _ _ _ (AV.agg.inj heq)]
        · rfl
      | _ => rfl
    · rfl
  | build t p =>
    have : mapO (fun (p : Nat × Operand) => bnd (opnd look' p.2) fun v => some (p.1, v)) p.toList = mapO (fun (p : Nat × Operand) => bnd (opnd look p.2) fun v => some (p.1, v)) p.toList :=
      mapO_congr fun q hq => by rw [ho q.2 (by simp only [Op.operands]; simpa using ⟨q.1, by simpa using hq⟩)]
    simp only [evalOp, this]
  | buildSlice t n p =>
    have : mapO (fun (p : Nat × Operand) => opnd look' p.2) p.toList = mapO (fun (p : Nat × Operand) => opnd look p.2) p.toList :=
      mapO_congr fun q hq => ho q.2 (by simp only [Op.operands]; simpa using ⟨q.1, by simpa using hq⟩)
    simp only [evalOp, this]
  | load t x =>
    have e := ho x (by simp [Op.operands])
    simp only [touch] at hO
    have k : ∀ p, opnd look x = some p → Agree O O' (reach O 9 p) := fun p hp => by rw [reachO_some hp] at hO; exact hO
    simp only [evalOp]
    split
    · exact bnd_congr2 e fun p hp => by rw [cellsN_congr (n := 8) (k p hp)]
    · rfl
    · exact bnd_congr2 e fun p hp => by rw [cell1_congr (n := 8) (k p hp)]
    · exact bnd_congr2 e fun p hp => by rw [cell1_congr (n := 8) (k p hp)]
  | store t x y =>
    have ex := ho x (by simp [Op.operands])
    have ey := ho y (by simp [Op.operands])
    simp only [touch] at hO
    have kx : ∀ p, opnd look x = some p → Agree O O' (reach O 9 p) := fun p hp => by have := hO.left; rw [reachO_some hp] at this; exact this
    have ky : ∀ p, opnd look y = some p → Agree O O' (reach O 9 p) := fun p hp => by have := hO.right; rw [reachO_some hp] at this; exact this
    simp only [evalOp]
    refine bnd_congr2 ex fun p hp => bnd_congr2 ey fun v hv => ?_
    have h1 := kx p hp
    have h2 := rowsOf_congr (n := 8) (ky v hv)
    cases p with
    | ptr id r off => simp only [at_congr (ptr_agree h1), h2]
    | innp id r i j => simp only [at_congr (innp_agree h1)]
    | _ => rfl
  | binOp op t x y t2 => simp only [evalOp, ho x (by simp [Op.operands]), ho y (by simp [Op.operands])]
  | unOp op t x => simp only [evalOp, ho x (by simp [Op.operands])]
  | convert s t x => simp only [evalOp, ho x (by simp [Op.operands])]
  | makeSlice t x y => simp only [evalOp, ho x (by simp [Op.operands]), ho y (by simp [Op.operands])]
  | slice t x lo hi mx =>
    have ex := ho x (by simp [Op.operands])
    have el : ∀ a, lo = some a → opnd look' a = opnd look a := fun a h => ho a (by subst h; simp [Op.operands])
    have eh : ∀ a, hi = some a → opnd look' a = opnd look a := fun a h => ho a (by subst h; simp [Op.operands])
    simp only [touch] at hO
    have k : ∀ p, opnd look x = some p → Agree O O' (reach O 9 p) := fun p hp => by rw [reachO_some hp] at hO; exact hO
    have e1 : optI look' 0 lo = optI look 0 lo := by
      cases lo with
      | none => rfl
      | some a => exact congrArg (fun z => bnd z asInt) (el a rfl)
    have e2 : ∀ n : Nat, optI look' n hi = optI look n hi := by
      intro n
      cases hi with
      | none => rfl
      | some a => exact congrArg (fun z => bnd z asInt) (eh a rfl)
    simp only [evalOp]
    split
    · rfl
    · split
      · split
        · refine bnd_congr2 ex fun v hv => ?_
          have h1 := k v hv
          have h2 := lenA_congr (n := 8) h1
          simp only [e1, e2]
          rw [h2]
          cases v with
          | own id r => simp only [at_congr (own_agree h1)]
          | sub id r i j => simp only [at_congr (sub_agree h1)]
          | d x => cases x <;> rfl
          | _ => rfl
        · rfl
      · rfl
  | fieldAddr s x f =>
    have ex := ho x (by simp [Op.operands])
    simp only [touch] at hO
    simp only [evalOp]
    split
    · refine bnd_congr2 rfl fun q hq => ?_
      split
      · rfl
      · refine bnd_congr2 ex fun p hp => ?_
        rw [reachO_some hp] at hO
        cases p with
        | ptr id r o => simp only [at_congr (ptr_agree hO)]
        | d x => cases x <;> rfl
        | _ => rfl
    · rfl
  | indexAddr t x y =>
    have ex := ho x (by simp [Op.operands])
    have ey := ho y (by simp [Op.operands])
    simp only [touch] at hO
    have kx : ∀ p, opnd look x = some p → Agree O O' (reach O 9 p) := fun p hp => by have := hO.left; rw [reachO_some hp] at this; exact this
    simp only [evalOp, ey]
    split
    · refine bnd_congr2 ex fun v hv => ?_
      have h1 := kx v hv
      have h2 := lenA_congr (n := 8) h1
      cases v with
      | own id r => simp only [h2]
      | sub id r i j => simp only [at_congr (sub_agree h1)]
      | inn id r i => simp only [h2]
      | d x => cases x <;> rfl
      | _ => rfl
    · rfl
  | index t x y => simp only [evalOp, ho x (by simp [Op.operands]), ho y (by simp [Op.operands])]
  | extract x i => simp only [evalOp, ho x (by simp [Op.operands])]
  | field s x f => simp only [evalOp, ho x (by simp [Op.operands])]
  | makeFunc fn p q =>
    have e1 : mapO (opnd look') p.toList = mapO (opnd look) p.toList := mapO_congr fun x hx => ho x (by simp only [Op.operands]; simp at hx ⊢; exact .inl hx)
    have e2 : mapO (opnd look') q.toList = mapO (opnd look) q.toList := mapO_congr fun x hx => ho x (by simp only [Op.operands]; simp at hx ⊢; exact .inr hx)
    simp only [evalOp, e1, e2]
  | nilCheck x =>
    have ex := ho x (by simp [Op.operands])
    simp only [touch] at hO
    simp only [evalOp]
    refine bnd_congr2 ex fun p hp => ?_
    rw [reachO_some hp] at hO
    cases p with
    | ptr id r o => simp only [at_congr (ptr_agree hO)]
    | d x => cases x <;> rfl
    | _ => rfl
  | call c =>
    obtain ⟨callee, args, tys⟩ := c
    simp only [touch] at hO
    have ea : mapO (opnd look') args.toList = mapO (opnd look) args.toList := mapO_congr fun x hx => ho x (by simp only [Op.operands, Call.operands]; simp at hx ⊢; exact .inr hx)
    have ka : ∀ xs, mapO (opnd look) args.toList = some xs → ∀ x ∈ xs, Agree O O' (reach O 9 x) := by
      intro xs hxs x hx id hid
      obtain ⟨i, hi, rfl⟩ := List.mem_iff_getElem.1 hx
      obtain ⟨p, hp, hf⟩ := mapO_get hxs (List.getElem?_eq_getElem hi)
      exact hO id (List.mem_append_right _ (List.mem_flatMap.2 ⟨p, List.mem_of_getElem? hp, by rw [reachO_some hf]; exact hid⟩))
    simp only [evalOp]
    refine bnd_congr2 ea fun xs hxs => ?_
    cases callee with
    | value f =>
      have ef := ho f (by simp [Op.operands, Call.operands])
      refine bnd_congr2 ef fun fv hfv => ?_
      have kf : Agree O O' (reach O 9 fv) := fun id hid => hO id (List.mem_append_left _ (by show id ∈ reachO O look f; rw [reachO_some hfv]; exact hid))
      cases fv with
      | d x =>
        cases x with
        | clo k p q =>
          refine evalCallOp_congr fun y hy => ?_
          rcases List.mem_append.1 hy with hy | hy
          · rcases List.mem_append.1 hy with hy | hy
            · obtain ⟨z, _, rfl⟩ := List.mem_map.1 hy
              exact ⟨0, fun id hid => by simp [reach] at hid⟩
            · exact ⟨1, ka xs hxs y hy⟩
          · obtain ⟨z, _, rfl⟩ := List.mem_map.1 hy
            exact ⟨0, fun id hid => by simp [reach] at hid⟩
        | _ => rfl
      | clo k p q =>
        refine evalCallOp_congr fun y hy => ?_
        have up : ∀ z, z ∈ p ∨ z ∈ q → Agree O O' (reach O 8 z) := fun z hz id hid => kf id (by
          simp only [reach, List.mem_append, List.mem_flatMap]
          exact hz.imp (fun h => ⟨z, h, hid⟩) (fun h => ⟨z, h, hid⟩))
        rcases List.mem_append.1 hy with hy | hy
        · rcases List.mem_append.1 hy with hy | hy
          · exact ⟨0, up y (.inl hy)⟩
          · exact ⟨1, ka xs hxs y hy⟩
        · exact ⟨0, up y (.inr hy)⟩
      | _ => rfl
    | builtin b => exact evalBuiltin_congr fun x hx => ka xs hxs x hx
    | invoke r m => rfl
  | _ => rfl
end
end Go.Proofs.YtnfhglplafmfiaaGreatE

namespace Go.Proofs.YtnfhglplafmfiaaGreatE
set_option linter.unusedSectionVars false
set_option linter.unusedSimpArgs false
set_option linter.unusedVariables false
open Go
set_option linter.unusedSectionVars false

structure Zt where
  l : Nat → Option Loc
  p : Nat → Prop

section
variable {P : Program} {n0 : Nat} {Z : Zt} {M : Nat → Prop} {F : Frz} {β : Beta} {U : Nat → Prop} {look : Nat → Option AV} {O : Nat → Option (Nat × Ob)} {a : Act} {w : World} {cx : Cx}

theorem Loc.same.trans {A B C : Loc} (h : A.same B) (k : B.same C) : A.same C := by
  obtain ⟨a1, a2, a3, a4, a5⟩ := h
  obtain ⟨b1, b2, b3, b4, b5⟩ := k
  exact ⟨b1.trans a1, b2.trans a2, b3.trans a3, b4.trans a4, b5.trans a5⟩

/-- The versions in use, and that rows that were lent lie where they lay. -/
structure UG (n0 : Nat) (Z : Zt) (F : Frz) (β : Beta) (U g : Nat → Prop) : Prop where
  le : ∀ v, U v → g v
  zero : U 0
  z : ∀ id L, β id = some (0, L) → ∃ L0, Z.l id = some L0 ∧ L0.same L
  p1 : ∀ b, Z.p b → F.p b
  p2 : ∀ b, F.p b → Z.p b ∨ n0 ≤ b

theorem UG.mono {Z : Zt} {β : Beta} {U g g' : Nat → Prop} (h : UG n0 Z F β U g) (k : ∀ v, g v → g' v) : UG n0 Z F β U g' := ⟨fun v hv => k v (h.le v hv), h.zero, h.z, h.p1, h.p2⟩

/-- What stands for a frame and its world. -/
structure Rep (n0 : Nat) (M : Nat → Prop) (Z : Zt) (nt : Nat) (g : Nat → Prop) (look : Nat → Option AV) (O : Nat → Option (Nat × Ob)) (a : Act) (w : World) : Prop where
  ex : ∃ F β U, Inv n0 M F β U O w.heap ∧ (∀ t x, look t = some x → ∃ v, a.tmps[t]? = some v ∧ VRep F w.heap β U x v) ∧ UG n0 Z F β U g
  defers : a.defers = []
  size : nt ≤ a.tmps.size

def putE (dst : Option Nat) (x : AV) (look : Nat → Option AV) : Nat → Option AV := fun t => if dst = some t then some x else look t

theorem look_putDst {dst : Option Nat} {x : AV} {env : Env} {obs : Obs} {g : Nat} : (St.mk (putDst dst x env) obs g).look = putE dst x (lookL env) := by
  funext t
  cases dst with
  | none => simp [St.look, putDst, putE]
  | some d =>
    simp only [St.look, putDst, putE, lookL]
    by_cases h : d = t <;> simp [h]

theorem put_get {dst : Option Tmp} {v : Value} (hd : ∀ d, dst = some d → d < a.tmps.size) (t : Nat) : (a.put dst v).tmps[t]? = if dst = some t then some v else a.tmps[t]? := by
  cases dst with
  | none => simp [Act.put]
  | some d =>
    have := hd d rfl
    by_cases h : d = t
    · subst h; simp [Act.put, Array.getElem?_setIfInBounds, this]
    · simp [Act.put, Array.getElem?_setIfInBounds_ne h, h]

theorem put_defers {dst : Option Tmp} {v : Value} : (a.put dst v).defers = a.defers := by cases dst <;> rfl
theorem put_size {dst : Option Tmp} {v : Value} : (a.put dst v).tmps.size = a.tmps.size := by cases dst <;> simp [Act.put]

/-- Behind an operation. -/
theorem Rep.post {nt : Nat} {g : Nat → Prop} {ver : Nat} {out : Out} {val : Value} {w' : World} {dst : Option Tmp} (hd : ∀ d, dst = some d → d < nt) (hdef : a.defers = []) (hsz : nt ≤ a.tmps.size)
    (env : ∀ t x, look t = some x → ∃ v, a.tmps[t]? = some v ∧ VRep F w.heap β U x v) (hI : n0 ≤ w.heap.size) (hg : UG n0 Z F β U g) (hp : Post n0 M F β U O w ver out val w') :
    Rep n0 M Z nt (fun v => g v ∨ v = ver) (putE dst out.val look) (updO O out.upd) (a.put dst val) w' ∧ Stp n0 M w w' := by
  obtain ⟨F', β', U', I', V, E, hU, S⟩ := hp
  refine ⟨⟨⟨F', β', U', I', fun t x hx => ?_, ⟨fun v hv => (hU v hv).imp_left (hg.le v), E.eU 0 hg.zero, fun id L hL => by
    obtain ⟨L1, h1, s1⟩ := E.eβ id 0 L hg.zero hL
    obtain ⟨L0, h0, s0⟩ := hg.z id L1 h1
    exact ⟨L0, h0, s0.trans s1⟩, fun b hb => E.eP b (hg.p1 b hb), fun b hb => (E.eN b hb).elim (hg.p2 b) (fun h => .inr (Nat.le_trans hI h))⟩⟩, by rw [put_defers]; exact hdef, by rw [put_size]; exact hsz⟩, S⟩
  rw [put_get (fun d h => Nat.lt_of_lt_of_le (hd d h) hsz)]
  unfold putE at hx
  split at hx
  · rename_i h
    simp only [Option.some.injEq] at hx; subst hx
    exact ⟨val, by simp [h], V⟩
  · rename_i h
    obtain ⟨v, hv, r⟩ := env t x hx
    exact ⟨v, by simp [h, hv], r.ext E⟩

theorem guard_rep {ops : Array Oper} {o : Oper} {g : Bool} (env : ∀ t x, look t = some x → ∃ v, a.tmps[t]? = some v ∧ VRep F w.heap β U x v) (h : guardOk ops look o = some g) :
    Region.wanted o (yielded ops a.tmps) = g := by
  unfold guardOk at h
  unfold Region.wanted
  cases hg : o.guard with
  | none => simp only [hg, Option.some.injEq] at h; rw [← h]
  | some p =>
    obtain ⟨j, want⟩ := p
    simp only [hg] at h
    obtain ⟨t, ht, h1⟩ := bnd_eq_some.1 h
    obtain ⟨b, hb, h2⟩ := bnd_eq_some.1 h1
    obtain ⟨x, hx, hb⟩ := bnd_eq_some.1 hb
    simp only [Option.some.injEq] at h2
    obtain ⟨v, hv, r⟩ := env t x hx
    obtain ⟨oj, hoj, hdst⟩ := bnd_eq_some.1 ht
    have : yielded ops a.tmps j = b := by
      unfold guardVal at hb
      split at hb
      · rename_i c
        simp only [Option.some.injEq] at hb
        have hvb := asBool_rep (b := c) r rfl
        subst hvb
        simp [yielded, hoj, hdst, hv, hb]
      · simp only [Option.some.injEq] at hb
        cases r with
        | tuple _ vs hl hr =>
          simp [yielded, hoj, hdst, hv, hb]
      · simp at hb
    simp only [this]
    rw [← h2]

/-- One operation of a region, under its guard. -/
theorem one_wp {nt : Nat} {ops : Array Oper} {i : Nat} {o : Oper} {ver : Nat} {r : Rs} {g : Nat → Prop} {K : Act → World → Prop} {Q : Exit → Act → World → Prop} (hP : cx.P = P) (hS : CallSound P cx.call) (ho : ops[i]? = some o)
    (hd : ∀ d, o.dst = some d → d < nt) (R : Rep n0 M Z nt g look O a w) (hver : ¬ g ver) {b : Bool} (hgd : guardOk ops look o = some b)
    (he : b = true → evalOp cx look O ver o = some ⟨r.val, r.upd⟩) (hn : b = false → r.val = .tuple [] ∧ r.upd = [])
    (hK : ∀ a' w', Rep n0 M Z nt (fun v => g v ∨ v = ver) (putE o.dst r.val look) (updO O r.upd) a' w' → Stp n0 M w w' → K a' w') : wpOp P ops Q i K a w := by
  obtain ⟨⟨F, β, U, I, env, hg⟩, hdef, hsz⟩ := R
  unfold wpOp
  simp only [ho, guard_rep env hgd]
  cases b with
  | true =>
    simp only [if_true]
    refine .inl ?_
    have H : Hyp n0 M F β U O look a w ver := ⟨I, env, fun h => hver (hg.le _ h)⟩
    refine (op_sound hP H hS (he rfl)).wp fun val w' hp => ?_
    obtain ⟨h1, h2⟩ := Rep.post hd hdef hsz env I.le hg hp
    exact hK _ _ h1 h2
  | false =>
    obtain ⟨e1, e2⟩ := hn rfl
    simp only [Bool.false_eq_true, if_false]
    obtain ⟨h1, h2⟩ := Rep.post (O := O) (w := w) (dst := o.dst) (val := undef) (ver := ver) hd hdef hsz env I.le hg (Post.pure I (.tuple [] #[] rfl (fun i x v hx _ => by simp at hx)))
    refine hK _ _ ?_ h2
    rw [e1, e2]; exact h1

theorem evalOne_spec {ops : Array Oper} {ver : Nat} {o : Oper} {st st' : St} (h : evalOne cx ops ver o st = some st') : ∃ (b : Bool) (r : Rs), guardOk ops st.look o = some b ∧
    (b = true → evalOp cx st.look st.ob ver o = some ⟨r.val, r.upd⟩) ∧ (b = false → r.val = .tuple [] ∧ r.upd = []) ∧ st' = putRs st o r := by
  unfold evalOne at h
  obtain ⟨b, hb, h1⟩ := bnd_eq_some.1 h
  cases b with
  | true =>
    simp only [if_true] at h1
    obtain ⟨out, ho, h2⟩ := bnd_eq_some.1 h1
    exact ⟨true, ⟨out.val, out.upd, []⟩, hb, fun _ => ho, fun h => by simp at h, (Option.some.inj h2).symm⟩
  | false =>
    simp only [Bool.false_eq_true, if_false] at h1
    exact ⟨false, ⟨.tuple [], [], []⟩, hb, fun h => by simp at h, fun _ => ⟨rfl, rfl⟩, (Option.some.inj h1).symm⟩

theorem putRs_look {st : St} {o : Oper} {r : Rs} : (putRs st o r).look = putE o.dst r.val st.look := look_putDst
theorem putRs_ob {st : St} {o : Oper} {r : Rs} : (putRs st o r).ob = updO st.ob r.upd := by
  funext id; exact congrFun (obsL_append r.upd st.obs) id

/-- A region in the order of its text. -/
theorem seq_region {nt : Nat} {ops : Array Oper} {Q : Exit → Act → World → Prop} (hP : cx.P = P) (hS : CallSound P cx.call) (hok : ∀ (i : Nat) (o : Oper), ops[i]? = some o → ∀ d, o.dst = some d → d < nt) {stf : St} :
    ∀ (k : Nat) (os : List Oper) (st : St) (a : Act) (w : World), k + os.length = ops.size → ops.toList.drop k = os → evalOps cx ops k os st = some stf →
      Rep n0 M Z nt (fun v => v < st.g + k) st.look st.ob a w →
      (∀ a' w', Rep n0 M Z nt (fun v => v < stf.g + ops.size) stf.look stf.ob a' w' → Stp n0 M w w' → Q .normal a' w') → wpOps P ops Q (List.range' k os.length) a w
  | k, [], st, a, w, hk, hos, h, R, hQ => by
    simp only [evalOps, Option.some.injEq] at h; subst h
    simp only [List.length_nil, List.range'_zero, wpOps]
    refine hQ a w ⟨?_, R.defers, R.size⟩ (Stp.refl _ _ _)
    obtain ⟨F, β, U, I, env, hg⟩ := R.ex
    simp only [List.length_nil, Nat.add_zero] at hk
    exact ⟨F, β, U, I, env, hg.mono fun v hv => by rw [← hk]; exact hv⟩
  | k, o :: os, st, a, w, hk, hos, h, R, hQ => by
    simp only [evalOps] at h
    obtain ⟨st', h1, h2⟩ := bnd_eq_some.1 h
    obtain ⟨b, r, hb, he, hn, rfl⟩ := evalOne_spec h1
    have ho : ops[k]? = some o := by
      have := congrArg (fun l => l[0]?) hos
      simpa using this
    simp only [List.length_cons, List.range'_succ, wpOps_cons]
    refine one_wp hP hS ho (hok k o ho) R (by omega) hb he hn fun a' w' R' S => ?_
    have R'' : Rep n0 M Z nt (fun v => v < (putRs st o r).g + (k + 1)) (putRs st o r).look (putRs st o r).ob a' w' := by
      rw [putRs_look, putRs_ob]
      obtain ⟨F, β, U, I, env, hg⟩ := R'.ex
      exact ⟨⟨F, β, U, I, env, hg.mono fun v hv => by simp only [putRs]; omega⟩, R'.defers, R'.size⟩
    refine seq_region hP hS hok (k + 1) os _ a' w' (by simp only [List.length_cons] at hk; omega) ?_ h2 R'' fun a2 w2 R2 S2 => hQ a2 w2 R2 (S.trans S2)
    have := congrArg List.tail hos
    simpa using this
end
end Go.Proofs.YtnfhglplafmfiaaGreatE

namespace Go.Proofs.YtnfhglplafmfiaaGreatE
set_option linter.unusedSectionVars false
set_option linter.unusedSimpArgs false
set_option linter.unusedVariables false
open Go
set_option linter.unusedSectionVars false

section
variable {P : Program} {n0 : Nat} {M : Nat → Prop} {w : World} {cx : Cx} {ops : Array Oper}

/-- The value of a slot where a set of operations has run. -/
def IsE (ops : Array Oper) (rs : List Rs) (E0 : Nat → Option AV) (S : Nat → Prop) (t : Nat) (x : AV) : Prop :=
  (∃ j o r, S j ∧ ops[j]? = some o ∧ rs[j]? = some r ∧ o.dst = some t ∧ x = r.val) ∨ ((∀ j o, S j → ops[j]? = some o → o.dst ≠ some t) ∧ E0 t = some x)

/-- What stands at a number where a set of operations has run. -/
def IsG (rs : List Rs) (O0 : Nat → Option (Nat × Ob)) (S : Nat → Prop) (X : Nat) (y : Option (Nat × Ob)) : Prop :=
  (∃ j r, S j ∧ rs[j]? = some r ∧ lookL r.upd X = some y ∧ ∀ k r', j < k → S k → rs[k]? = some r' → lookL r'.upd X = none) ∨ ((∀ j r, S j → rs[j]? = some r → lookL r.upd X = none) ∧ y = O0 X)

theorem IsG.unique {rs : List Rs} {O0 : Nat → Option (Nat × Ob)} {S : Nat → Prop} {X : Nat} {y z : Option (Nat × Ob)} (hy : IsG rs O0 S X y) (hz : IsG rs O0 S X z) : y = z := by
  rcases hy with ⟨j, r, h1, h2, h3, h4⟩ | ⟨h1, h2⟩ <;> rcases hz with ⟨k, s, g1, g2, g3, g4⟩ | ⟨g1, g2⟩
  · rcases Nat.lt_trichotomy j k with h | h | h
    · have := h4 k s h g1 g2; rw [g3] at this; simp at this
    · subst h; rw [h2] at g2; simp only [Option.some.injEq] at g2; subst g2
      rw [h3] at g3; simpa using g3
    · have := g4 j r h h1 h2; rw [h3] at this; simp at this
  · have := g1 j r h1 h2; rw [h3] at this; simp at this
  · have := h1 k s g1 g2; rw [g3] at this; simp at this
  · rw [h2, g2]

theorem IsG.congr {rs : List Rs} {O0 : Nat → Option (Nat × Ob)} {S S' : Nat → Prop} {X : Nat} {y : Option (Nat × Ob)} (h : ∀ j r, rs[j]? = some r → lookL r.upd X ≠ none → (S j ↔ S' j)) (hy : IsG rs O0 S X y) : IsG rs O0 S' X y := by
  rcases hy with ⟨j, r, h1, h2, h3, h4⟩ | ⟨h1, h2⟩
  · refine .inl ⟨j, r, (h j r h2 (by rw [h3]; simp)).1 h1, h2, h3, fun k r' hk hS hr => ?_⟩
    cases hl : lookL r'.upd X with
    | none => rfl
    | some z => exact absurd (h4 k r' hk ((h k r' hr (by rw [hl]; simp)).2 hS) hr) (by rw [hl]; simp)
  · refine .inr ⟨fun j r hS hr => ?_, h2⟩
    cases hl : lookL r.upd X with
    | none => rfl
    | some z => exact absurd (h1 j r ((h j r hr (by rw [hl]; simp)).2 hS) hr) (by rw [hl]; simp)

theorem keys_of_look {o : Obs} {X : Nat} {y : Option (Nat × Ob)} (h : lookL o X = some y) : X ∈ keys o := by
  induction o with
  | nil => simp [lookL] at h
  | cons p r ih =>
    simp only [lookL] at h
    split at h
    · rename_i e; simp [keys, e]
    · simp only [keys, List.map_cons, List.mem_cons]; exact .inr (ih h)

theorem look_of_keys {o : Obs} {X : Nat} (h : lookL o X ≠ none) : X ∈ keys o := by
  cases hl : lookL o X with
  | none => exact absurd hl h
  | some y => exact keys_of_look hl

/-- The run in the order of the text, step by step. -/
theorem evalDraw_spec : ∀ (os : List Oper) (k : Nat) (st : St) (acc : List Rs) (stf : St) (accf : List Rs), evalDraw cx ops k os st acc = some (stf, accf) →
    ∃ rs : List Rs, rs.length = os.length ∧ accf = acc ++ rs ∧ ∃ σ : Nat → St, σ 0 = st ∧ σ os.length = stf ∧ (∀ i, (σ i).g = st.g) ∧
      ∀ i o, os[i]? = some o → ∃ r, rs[i]? = some r ∧ evalRs cx ops (st.g + (k + i)) o (σ i) = some r ∧ σ (i + 1) = putRs (σ i) o r
  | [], k, st, acc, stf, accf, h => by
    simp only [evalDraw, Option.some.injEq, Prod.mk.injEq] at h
    obtain ⟨rfl, rfl⟩ := h
    exact ⟨[], rfl, by simp, fun _ => st, rfl, rfl, fun _ => rfl, fun i o ho => by simp at ho⟩
  | o :: os, k, st, acc, stf, accf, h => by
    simp only [evalDraw] at h
    obtain ⟨r, hr, h2⟩ := bnd_eq_some.1 h
    obtain ⟨rs, l1, l2, σ, s0, s1, sg, hs⟩ := evalDraw_spec os (k + 1) (putRs st o r) (acc ++ [r]) stf accf h2
    refine ⟨r :: rs, by simp [l1], by simp [l2], fun i => match i with | 0 => st | i + 1 => σ i, rfl, s1, fun i => ?_, fun i o' ho => ?_⟩
    · cases i with
      | zero => rfl
      | succ i => exact sg i
    · cases i with
      | zero =>
        simp only [List.getElem?_cons_zero, Option.some.injEq] at ho
        subst ho
        exact ⟨r, rfl, hr, s0⟩
      | succ i =>
        simp only [List.getElem?_cons_succ] at ho
        obtain ⟨r', a1, a2, a3⟩ := hs i o' ho
        refine ⟨r', by simpa using a1, ?_, a3⟩
        have e : st.g + (k + (i + 1)) = (putRs st o r).g + (k + 1 + i) := by simp only [putRs]; omega
        rw [e]; exact a2

theorem evalRs_spec {ver : Nat} {o : Oper} {st : St} {r : Rs} (h : evalRs cx ops ver o st = some r) : ∃ b : Bool, guardOk ops st.look o = some b ∧
    (b = true → evalOp cx st.look st.ob ver o = some ⟨r.val, r.upd⟩ ∧ r.tch = touch st.ob st.look o) ∧ (b = false → r.val = .tuple [] ∧ r.upd = []) := by
  unfold evalRs at h
  obtain ⟨b, hb, h1⟩ := bnd_eq_some.1 h
  cases b with
  | true =>
    simp only [if_true] at h1
    obtain ⟨out, ho, h2⟩ := bnd_eq_some.1 h1
    have h2 := Option.some.inj h2
    subst h2
    exact ⟨true, hb, fun _ => ⟨ho, rfl⟩, fun h => by simp at h⟩
  | false =>
    simp only [Bool.false_eq_true, if_false] at h1
    have h1 := Option.some.inj h1
    subst h1
    exact ⟨false, hb, fun h => by simp at h, fun _ => ⟨rfl, rfl⟩⟩

theorem guard_congr {look look' : Nat → Option AV} {o : Oper} (h : ∀ t ∈ o.looksAt ops, look' t = look t) : guardOk ops look' o = guardOk ops look o := by
  unfold guardOk
  cases hg : o.guard with
  | none => rfl
  | some p =>
    obtain ⟨j, want⟩ := p
    simp only
    cases ht : bnd ops[j]? (·.dst) with
    | none => rfl
    | some t =>
      have : look' t = look t := h t (List.mem_append_right _ (by
        obtain ⟨oj, h1, h2⟩ := bnd_eq_some.1 ht
        simp [hg, h1, h2]))
      show bnd (bnd (look' t) guardVal) _ = bnd (bnd (look t) guardVal) _
      rw [this]

theorem anc_down {S : Nat → Prop} (hS : ∀ j o, S j → ops[j]? = some o → ∀ e ∈ o.after, Region.binds .any e = true → S e.on) : ∀ (n i j : Nat), ancB ops n i j = true → S j → S i
  | 0, _, _, h, _ => by simp [ancB] at h
  | n + 1, i, j, h, hj => by
    simp only [ancB] at h
    split at h
    · simp at h
    · rename_i o ho
      simp only [Array.any_eq_true', Bool.and_eq_true, Bool.or_eq_true, beq_iff_eq] at h
      obtain ⟨e, he, hb, h⟩ := h
      have hs := hS j o hj ho e he hb
      rcases h with h | h
      · exact h ▸ hs
      · exact anc_down hS n i e.on h hs

theorem anc_ready {S : Nat → Prop} (hS : ∀ j o, S j → ops[j]? = some o → ∀ e ∈ o.after, Region.binds .any e = true → S e.on) {j : Nat} (hj : ∀ o, ops[j]? = some o → ∀ e ∈ o.after, Region.binds .any e = true → S e.on) :
    ∀ (n i : Nat), ancB ops n i j = true → S i
  | 0, _, h => by simp [ancB] at h
  | n + 1, i, h => by
    simp only [ancB] at h
    split at h
    · simp at h
    · rename_i o ho
      simp only [Array.any_eq_true', Bool.and_eq_true, Bool.or_eq_true, beq_iff_eq] at h
      obtain ⟨e, he, hb, h⟩ := h
      have hs := hj o ho e he hb
      rcases h with h | h
      · exact h ▸ hs
      · exact anc_down hS n i e.on h hs

theorem confWith_mem {i : Nat} {r : Rs} : ∀ (ss : List Rs) (j k : Nat) (s : Rs), ss[k]? = some s → confl r s = true → (i, j + k) ∈ confWith i r j ss
  | [], _, _, _, h, _ => by simp at h
  | x :: ss, j, 0, s, h, hc => by
    simp only [List.getElem?_cons_zero, Option.some.injEq] at h; subst h
    simp [confWith, hc]
  | x :: ss, j, k + 1, s, h, hc => by
    have := confWith_mem (i := i) (r := r) ss (j + 1) k s (by simpa using h) hc
    simp only [confWith]
    rw [show j + (k + 1) = j + 1 + k by omega]
    split
    · exact List.mem_cons_of_mem _ this
    · exact this

theorem confAll_mem : ∀ (rs : List Rs) (b i j : Nat) (r s : Rs), rs[i]? = some r → rs[j]? = some s → i < j → confl r s = true → (b + i, b + j) ∈ confAll b rs
  | [], _, _, _, _, _, h, _, _, _ => by simp at h
  | x :: rs, b, 0, j + 1, r, s, h, hs, _, hc => by
    simp only [List.getElem?_cons_zero, Option.some.injEq] at h; subst h
    simp only [List.getElem?_cons_succ] at hs
    have := confWith_mem (i := b) (r := x) rs (b + 1) j s hs hc
    simp only [confAll, List.mem_append, Nat.add_zero]
    rw [show b + (j + 1) = b + 1 + j by omega]
    exact .inl this
  | x :: rs, b, i + 1, j + 1, r, s, h, hs, hlt, hc => by
    simp only [List.getElem?_cons_succ] at h hs
    have := confAll_mem rs (b + 1) i j r s h hs (by omega) hc
    simp only [confAll, List.mem_append]
    rw [show b + (i + 1) = b + 1 + i by omega, show b + (j + 1) = b + 1 + j by omega]
    exact .inr this
  | _ :: _, _, _, 0, _, _, _, _, h, _ => by omega

theorem confl_left {r s : Rs} {X : Nat} (h1 : X ∈ keys r.upd) (h2 : X ∈ s.tch ∨ X ∈ keys s.upd) : confl r s = true := by
  simp only [confl, Bool.or_eq_true, List.any_eq_true, List.contains_iff_mem]
  exact .inl ⟨X, h1, h2⟩

theorem confl_right {r s : Rs} {X : Nat} (h1 : X ∈ r.tch) (h2 : X ∈ keys s.upd) : confl r s = true := by
  simp only [confl, Bool.or_eq_true, List.any_eq_true, List.contains_iff_mem]
  exact .inr ⟨X, h2, h1⟩
end
end Go.Proofs.YtnfhglplafmfiaaGreatE

namespace Go.Proofs.YtnfhglplafmfiaaGreatE
set_option linter.unusedSectionVars false
set_option linter.unusedSimpArgs false
set_option linter.unusedVariables false
open Go
set_option linter.unusedSectionVars false

section
variable {P : Program} {n0 : Nat} {Z : Zt} {M : Nat → Prop} {cx : Cx} {ops : Array Oper}

theorem nodup_dst : ∀ {l : List Oper}, (l.filterMap (·.dst)).Nodup → ∀ (i j : Nat) (p q : Oper) (t : Nat), l[i]? = some p → l[j]? = some q → p.dst = some t → q.dst = some t → i = j
  | [], _, i, j, p, q, t, h, _, _, _ => by simp at h
  | o :: l, hn, i, j, p, q, t, h1, h2, d1, d2 => by
    have hrest : (l.filterMap (·.dst)).Nodup := by
      cases hd : o.dst with
      | none => simpa [List.filterMap_cons, hd] using hn
      | some d => simp only [List.filterMap_cons, hd, List.nodup_cons] at hn; exact hn.2
    have hhead : ∀ (k : Nat) (r : Oper), l[k]? = some r → r.dst = some t → o.dst = some t → False := by
      intro k r hr hrt hot
      simp only [List.filterMap_cons, hot, List.nodup_cons] at hn
      exact hn.1 (List.mem_filterMap.2 ⟨r, List.mem_of_getElem? hr, hrt⟩)
    cases i with
    | zero =>
      simp only [List.getElem?_cons_zero, Option.some.injEq] at h1; subst h1
      cases j with
      | zero => rfl
      | succ j => simp only [List.getElem?_cons_succ] at h2; exact (hhead j q h2 d2 d1).elim
    | succ i =>
      simp only [List.getElem?_cons_succ] at h1
      cases j with
      | zero =>
        simp only [List.getElem?_cons_zero, Option.some.injEq] at h2; subst h2
        exact (hhead i p h1 d1 d2).elim
      | succ j => simp only [List.getElem?_cons_succ] at h2; exact congrArg (· + 1) (nodup_dst hrest i j p q t h1 h2 d1 d2)

structure Draw (ops : Array Oper) : Prop where
  dst : ∀ (i j : Nat) (p q : Oper) (t : Nat), ops[i]? = some p → ops[j]? = some q → p.dst = some t → q.dst = some t → i = j
  edge : ∀ (j : Nat) (o : Oper), ops[j]? = some o → ∀ e ∈ o.after, Region.binds .any e = true → e.on < j
  look : ∀ (j : Nat) (o : Oper) (t : Nat), ops[j]? = some o → t ∈ o.looksAt ops → ∀ (i : Nat) (p : Oper), ops[i]? = some p → p.dst = some t → i = j ∨ ancB ops 6 i j = true ∨ ancB ops 6 j i = true

theorem okDraw_spec (h : okDraw ops = true) : Draw ops := by
  simp only [okDraw, Bool.and_eq_true, decide_eq_true_eq, List.all_eq_true, List.mem_range] at h
  obtain ⟨h1, h2⟩ := h
  have lt : ∀ {j : Nat} {o : Oper}, ops[j]? = some o → j < ops.size := fun h => (Array.getElem?_eq_some_iff.1 h).1
  refine ⟨fun i j p q t hi hj => nodup_dst h1 i j p q t (by simpa using hi) (by simpa using hj), fun j o ho e he hb => ?_, fun j o t ho ht i p hp hd => ?_⟩
  · have := h2 j (lt ho)
    simp only [ho, Bool.and_eq_true, Array.all_eq_true', Bool.or_eq_true, Bool.not_eq_true', decide_eq_true_eq] at this
    exact (this.1.1 e he).resolve_left (by simp [hb])
  · have := h2 j (lt ho)
    simp only [ho, Bool.and_eq_true, List.all_eq_true, List.mem_range] at this
    have := this.2 t ht i (lt hp)
    simp only [hp, hd, Bool.or_eq_true, beq_iff_eq, bne_self_eq_false, Bool.false_eq_true, false_or] at this
    rcases this with (h | h) | h
    · exact .inl h
    · exact .inr (.inl h)
    · exact .inr (.inr h)

theorem anc_lt (D : Draw ops) : ∀ (n i j : Nat), ancB ops n i j = true → i < j
  | 0, _, _, h => by simp [ancB] at h
  | n + 1, i, j, h => by
    simp only [ancB] at h
    split at h
    · simp at h
    · rename_i o ho
      simp only [Array.any_eq_true', Bool.and_eq_true, Bool.or_eq_true, beq_iff_eq] at h
      obtain ⟨e, he, hb, h⟩ := h
      have := D.edge j o ho e he hb
      rcases h with h | h
      · omega
      · have := anc_lt D n i e.on h; omega

theorem IsE.congr {rs : List Rs} {E0 : Nat → Option AV} {S S' : Nat → Prop} {t : Nat} {x : AV} (h : ∀ (j : Nat) (o : Oper), ops[j]? = some o → o.dst = some t → (S j ↔ S' j)) (hx : IsE ops rs E0 S t x) : IsE ops rs E0 S' t x := by
  rcases hx with ⟨j, o, r, h1, h2, h3, h4, h5⟩ | ⟨h1, h2⟩
  · exact .inl ⟨j, o, r, (h j o h2 h4).1 h1, h2, h3, h4, h5⟩
  · exact .inr ⟨fun j o hS ho hd => h1 j o ((h j o ho hd).2 hS) ho hd, h2⟩

/-- One more operation: the slots. -/
theorem isE_step (D : Draw ops) {rs : List Rs} {E0 e : Nat → Option AV} {S : Nat → Prop} {i : Nat} {o : Oper} {r : Rs} (hi : ¬ S i) (ho : ops[i]? = some o) (hr : rs[i]? = some r) (he : ∀ t x, e t = some x ↔ IsE ops rs E0 S t x) (t : Nat) (x : AV) :
    putE o.dst r.val e t = some x ↔ IsE ops rs E0 (fun j => S j ∨ j = i) t x := by
  unfold putE
  split
  · rename_i hd
    refine ⟨fun hx => .inl ⟨i, o, r, .inr rfl, ho, hr, hd, (Option.some.inj hx).symm⟩, fun hx => ?_⟩
    rcases hx with ⟨j, o', r', h1, h2, h3, h4, h5⟩ | ⟨h1, _⟩
    · have := D.dst j i o' o t h2 ho h4 hd
      subst this
      rw [hr] at h3
      simp only [Option.some.injEq] at h3; subst h3
      rw [h5]
    · exact absurd hd (h1 i o (.inr rfl) ho)
  · rename_i hd
    rw [he]
    have key : ∀ (j : Nat) (p : Oper), ops[j]? = some p → p.dst = some t → (S j ↔ S j ∨ j = i) := fun j p hp hpd =>
      ⟨.inl, fun h => h.resolve_right (fun e1 => by subst e1; rw [ho] at hp; simp only [Option.some.injEq] at hp; subst hp; exact hd hpd)⟩
    exact ⟨IsE.congr key, IsE.congr fun j p hp hpd => (key j p hp hpd).symm⟩

/-- One more operation: the table. -/
theorem isG_step {rs : List Rs} {O0 g : Nat → Option (Nat × Ob)} {S : Nat → Prop} {i : Nat} {r : Rs} (hi : ¬ S i) (hr : rs[i]? = some r) (hg : ∀ X, IsG rs O0 S X (g X))
    (hlater : ∀ k s X, i < k → S k → rs[k]? = some s → lookL r.upd X ≠ none → lookL s.upd X = none) (X : Nat) : IsG rs O0 (fun j => S j ∨ j = i) X (updO g r.upd X) := by
  unfold updO
  cases hl : lookL r.upd X with
  | some y =>
    exact .inl ⟨i, r, .inr rfl, hr, hl, fun k s hk hS hs => hlater k s X hk (hS.resolve_right (by omega)) hs (by rw [hl]; simp)⟩
  | none =>
    refine (hg X).congr fun j s hs hne => ⟨.inl, fun h => h.resolve_right fun e => ?_⟩
    subst e; rw [hr] at hs
    simp only [Option.some.injEq] at hs; subst hs
    exact hne hl

/-- The states of the run in the text's order. -/
theorem canon (D : Draw ops) {rs : List Rs} {σ : Nat → St} {st : St} (h0 : σ 0 = st) (hs : ∀ (i : Nat) (o : Oper), ops[i]? = some o → ∃ r, rs[i]? = some r ∧ σ (i + 1) = putRs (σ i) o r) :
    ∀ i, i ≤ ops.size → (∀ t x, (σ i).look t = some x ↔ IsE ops rs st.look (· < i) t x) ∧ ∀ X, IsG rs st.ob (· < i) X ((σ i).ob X)
  | 0, _ => by
    rw [h0]
    refine ⟨fun t x => ⟨fun h => .inr ⟨fun j o hj => by omega, h⟩, fun h => ?_⟩, fun X => .inr ⟨fun j r hj => by omega, rfl⟩⟩
    rcases h with ⟨j, _, _, hj, _⟩ | ⟨_, h⟩
    · omega
    · exact h
  | i + 1, hi => by
    obtain ⟨c1, c2⟩ := canon D h0 hs i (by omega)
    have ho : ops[i]? = some ops[i] := by simp
    obtain ⟨r, hr, hσ⟩ := hs i _ ho
    rw [hσ, putRs_look, putRs_ob]
    have e1 : ∀ j, (j < i ∨ j = i) ↔ j < i + 1 := fun j => by omega
    refine ⟨fun t x => (isE_step D (S := (· < i)) (by simp) ho hr c1 t x).trans ⟨IsE.congr fun j _ _ _ => e1 j, IsE.congr fun j _ _ _ => (e1 j).symm⟩, fun X => ?_⟩
    exact (isG_step (S := (· < i)) (by simp) hr c2 (fun k s X hk hS => by omega) X).congr fun j _ _ _ => e1 j

theorem count_set_list : ∀ (l : List Bool) (i : Nat), l[i]? = some false → ((l.set i true).filter (!·)).length + 1 = (l.filter (!·)).length
  | [], _, h => by simp at h
  | b :: l, 0, h => by
    simp only [List.getElem?_cons_zero, Option.some.injEq] at h; subst h
    simp
  | b :: l, i + 1, h => by
    have := count_set_list l i (by simpa using h)
    cases b <;> simp [List.set_cons_succ] <;> omega

theorem count_set {l : Array Bool} {i : Nat} (hi : i < l.size) (h : l[i] = false) : ((l.setIfInBounds i true).toList.filter (!·)).length + 1 = (l.toList.filter (!·)).length := by
  have := count_set_list l.toList i (by simp [hi, h])
  rw [Array.toList_setIfInBounds]; exact this

theorem draw_region {nt : Nat} {Q : Exit → Act → World → Prop} {id : Nat} (hm : P.follows .mixedOrders = true) (hP : cx.P = P) (hS : CallSound P cx.call) (hok : ∀ (i : Nat) (o : Oper), ops[i]? = some o → ∀ d, o.dst = some d → d < nt)
    (hd : okDraw ops = true) {st stf : St} {a : Act} {w : World} (h : bnd (evalDraw cx ops 0 ops.toList st []) (drawn ops) = some stf) (R : Rep n0 M Z nt (· < st.g) st.look st.ob a w)
    (hQ : ∀ a' w', Rep n0 M Z nt (fun v => v < stf.g + ops.size) stf.look stf.ob a' w' → Stp n0 M w w' → Q .normal a' w') : (Code.region id ops true).wp P Q a w := by
  have D := okDraw_spec hd
  obtain ⟨⟨stf', rs⟩, hev, h2⟩ := bnd_eq_some.1 h
  unfold drawn at h2
  obtain ⟨hconf, h3⟩ := ite_some.1 h2
  have h3 := Option.some.inj h3
  simp only at h3
  cases h3
  obtain ⟨rs', l1, l2, σ, s0, s1, sg, hs⟩ := evalDraw_spec _ _ _ _ _ _ hev
  simp only [List.nil_append] at l2
  subst l2
  have hsz : rs.length = ops.size := by simpa using l1
  have hs' : ∀ (i : Nat) (o : Oper), ops[i]? = some o → ∃ r, rs[i]? = some r ∧ evalRs cx ops (st.g + i) o (σ i) = some r ∧ σ (i + 1) = putRs (σ i) o r := by
    intro i o ho
    have := hs i o (by simpa using ho)
    simpa using this
  have C := canon D s0 (fun i o ho => (hs' i o ho).imp fun r hr => ⟨hr.1, hr.2.2⟩)
  have hconf' : ∀ i j r s, rs[i]? = some r → rs[j]? = some s → i < j → confl r s = true → ancB ops 6 i j = true := by
    intro i j r s hi hj hlt hc
    have hmem := confAll_mem rs 0 i j r s hi hj hlt hc
    simp only [confOk, List.all_eq_true] at hconf
    have := hconf _ hmem
    simpa using this
  have final : ∀ (listed : Array Bool) (a' : Act) (w' : World), (∀ j, j < ops.size → listed[j]? = some true) →
      (∃ e g, (∀ t x, e t = some x ↔ IsE ops rs st.look (fun j => listed[j]? = some true) t x) ∧ (∀ X, IsG rs st.ob (fun j => listed[j]? = some true) X (g X)) ∧
        Rep n0 M Z nt (fun v => v < st.g ∨ ∃ j, listed[j]? = some true ∧ v = st.g + j) e g a' w') → listed.size = ops.size → Stp n0 M w w' → Q .normal a' w' := by
    intro listed a' w' hall hK hls S
    obtain ⟨e, g, hE, hG, R'⟩ := hK
    obtain ⟨c1, c2⟩ := C ops.size (Nat.le_refl _)
    have hset : ∀ j, (listed[j]? = some true ↔ j < ops.size) := fun j => ⟨fun h => by have := (Array.getElem?_eq_some_iff.1 h).1; omega, hall j⟩
    have s1' : σ ops.size = stf := by simpa using s1
    have e1 : e = stf.look := by
      funext t
      apply Option.ext
      intro x
      rw [hE, ← s1', c1]
      exact ⟨IsE.congr fun j _ _ _ => hset j, IsE.congr fun j _ _ _ => (hset j).symm⟩
    have e2 : g = stf.ob := by
      funext X
      refine IsG.unique (hG X) ?_
      rw [← s1']
      exact (c2 X).congr fun j _ _ _ => (hset j).symm
    have e3 : stf.g = st.g := by rw [← s1']; exact sg _
    subst e1; subst e2
    refine hQ a' w' ?_ S
    obtain ⟨F, β, U, I, env, hg⟩ := R'.ex
    refine ⟨⟨F, β, U, I, env, hg.mono fun v hv => ?_⟩, R'.defers, R'.size⟩
    rcases hv with h | ⟨j, hj, h⟩
    · omega
    · have := (hset j).1 hj; omega
  -- what holds wherever the region stands
  have main : ∀ (fuel : Nat) (listed : Array Bool) (a' : Act) (w' : World), listed.size = ops.size → (listed.toList.filter (!·)).length ≤ fuel →
      (∀ (j : Nat) (o : Oper), listed[j]? = some true → ops[j]? = some o → ∀ e ∈ o.after, Region.binds .any e = true → listed[e.on]? = some true) →
      (∃ e g, (∀ t x, e t = some x ↔ IsE ops rs st.look (fun j => listed[j]? = some true) t x) ∧ (∀ X, IsG rs st.ob (fun j => listed[j]? = some true) X (g X)) ∧
        Rep n0 M Z nt (fun v => v < st.g ∨ ∃ j, listed[j]? = some true ∧ v = st.g + j) e g a' w') → Stp n0 M w w' → wpAny P .any ops Q fuel listed a' w' := by
    intro fuel
    induction fuel with
    | zero =>
      intro listed a' w' hls hcount hdown hK S
      have hall : ∀ j, j < ops.size → listed[j]? = some true := by
        intro j hj
        have hj' : j < listed.size := by omega
        cases hb : listed[j] with
        | true => simp [hj', hb]
        | false =>
          exfalso
          have : false ∈ listed.toList.filter (!·) := List.mem_filter.2 ⟨by rw [← hb]; simp, rfl⟩
          have := List.length_pos_of_mem this
          omega
      refine ⟨?_, ?_⟩
      · simp only [Region.ready, List.filter_eq_nil_iff, List.mem_range, Bool.and_eq_true, not_and]
        intro i hi h
        have := hall i hi
        simp [Array.getD_eq_getD_getElem?, this] at h
      · exact final listed a' w' hall hK hls S
    | succ fuel ih =>
      intro listed a' w' hls hcount hdown hK S
      refine ⟨fun hready => ?_, fun i hi => ?_⟩
      · -- nothing is ready: all has run
        have hall : ∀ j, j < ops.size → listed[j]? = some true := by
          intro j
          induction j using Nat.strongRecOn with
          | _ j ihj =>
            intro hj
            have hj' : j < listed.size := by omega
            cases hb : listed[j] with
            | true => simp [hj', hb]
            | false =>
              exfalso
              simp only [Region.ready, List.filter_eq_nil_iff, List.mem_range, Bool.and_eq_true, not_and] at hready
              refine hready j hj (by simp [Array.getD_eq_getD_getElem?, hj', hb]) ?_
              have ho : ops[j]? = some ops[j] := by simp
              simp only [ho, Option.map_some, Option.getD_some, Array.all_eq_true', Bool.or_eq_true, Bool.not_eq_true']
              intro e he
              cases hbd : Region.binds .any e with
              | false => exact .inl rfl
              | true =>
                right
                have hlt := D.edge j _ ho e he hbd
                have := ihj e.on hlt (by omega)
                simp [Array.getD_eq_getD_getElem?, this]
        exact final listed a' w' hall hK hls S
      · -- one that is ready runs
        simp only [Region.ready, List.mem_filter, List.mem_range, Bool.and_eq_true] at hi
        obtain ⟨hin, hnl, hdeps⟩ := hi
        have hi' : i < listed.size := by omega
        have hSi : ¬ (listed[i]? = some true) := by
          intro hc
          simp [Array.getD_eq_getD_getElem?, hc] at hnl
        have ho : ops[i]? = some ops[i] := by simp
        obtain ⟨r, hr, hev', hσ⟩ := hs' i _ ho
        obtain ⟨c1, c2⟩ := C i (by omega)
        have hready : ∀ o, ops[i]? = some o → ∀ e ∈ o.after, Region.binds .any e = true → listed[e.on]? = some true := by
          intro o ho' e he hb
          rw [ho'] at hdeps
          simp only [Option.map_some, Option.getD_some, Array.all_eq_true', Bool.or_eq_true, Bool.not_eq_true'] at hdeps
          have := (hdeps e he).resolve_left (by simp [hb])
          rw [Array.getD_eq_getD_getElem?] at this
          cases hl : listed[e.on]? with
          | none => simp [hl] at this
          | some b => simp [hl] at this; simp [this]
        obtain ⟨e, g, hE, hG, R'⟩ := hK
        -- slots that it looks at read as in the text's order
        have hlook : ∀ t ∈ (ops[i]).looksAt ops, e t = (σ i).look t := by
          intro t ht
          have key : ∀ (j : Nat) (p : Oper), ops[j]? = some p → p.dst = some t → (listed[j]? = some true ↔ j < i) := by
            intro j p hp hpd
            rcases D.look i _ t ho ht j p hp hpd with rfl | h | h
            · exact ⟨fun h => absurd h hSi, fun h => by omega⟩
            · exact ⟨fun _ => anc_lt D 6 j i h, fun _ => anc_ready hdown hready 6 j h⟩
            · have := anc_lt D 6 i j h
              exact ⟨fun hj => absurd (anc_down hdown 6 i j h hj) hSi, fun hj => by omega⟩
          apply Option.ext
          intro x
          rw [hE, c1]
          exact ⟨IsE.congr key, IsE.congr fun j p hp hpd => (key j p hp hpd).symm⟩
        obtain ⟨b, hgd, hb1, hb2⟩ := evalRs_spec hev'
        have hgd' : guardOk ops e ops[i] = some b := (guard_congr hlook).trans hgd
        have hev2 : b = true → evalOp cx e g (st.g + i) ops[i] = some ⟨r.val, r.upd⟩ := by
          intro hb
          obtain ⟨q1, q2⟩ := hb1 hb
          rw [← q1]
          refine evalOp_congr (fun t ht => hlook t (List.mem_append_left _ (List.mem_filterMap.2 ⟨_, by simpa using ht, rfl⟩))) fun X hX => ?_
          refine IsG.unique (hG X) ((c2 X).congr fun j s hj hne => ?_)
          have hX' : X ∈ r.tch := by rw [q2]; exact hX
          have hk := look_of_keys hne
          refine ⟨fun hlt => ?_, fun hjS => ?_⟩
          · exact anc_ready hdown hready 6 j (hconf' j i s r hj hr hlt (confl_left hk (.inl hX')))
          · rcases Nat.lt_trichotomy j i with h | h | h
            · exact h
            · subst h; exact absurd hjS hSi
            · exact absurd (anc_down hdown 6 i j (hconf' i j r s hr hj h (confl_right hX' hk)) hjS) hSi
        refine one_wp (ver := st.g + i) (r := r) hP hS ho (hok i _ ho) R' (fun hc => ?_) hgd' hev2 hb2 fun a2 w2 R2 S2 => ?_
        · rcases hc with hc | ⟨j, hj, hc⟩
          · omega
          · have : i = j := by omega
            subst this; exact hSi hj
        · have hset : ∀ j, (listed.setIfInBounds i true)[j]? = some true ↔ (listed[j]? = some true ∨ j = i) := by
            intro j
            by_cases hji : i = j
            · subst hji; simp [Array.getElem?_setIfInBounds, hi']
            · rw [Array.getElem?_setIfInBounds_ne hji]
              exact ⟨.inl, fun h => h.resolve_right (fun e => hji e.symm)⟩
          refine ih (listed.setIfInBounds i true) a2 w2 (by simpa using hls) ?_ ?_ ?_ (S.trans S2)
          · have := count_set hi' (by cases hb : listed[i] with | false => rfl | true => exact absurd (by simp [hi', hb]) hSi)
            omega
          · intro j o hj ho' ed hed hbd
            rw [hset] at hj ⊢
            rcases hj with hj | rfl
            · exact .inl (hdown j o hj ho' ed hed hbd)
            · exact .inl (hready o ho' ed hed hbd)
          · refine ⟨putE (ops[i]).dst r.val e, updO g r.upd, fun t x => ?_, fun X => ?_, ?_⟩
            · exact (isE_step D hSi ho hr hE t x).trans ⟨IsE.congr fun j _ _ _ => (hset j).symm, IsE.congr fun j _ _ _ => hset j⟩
            · refine (isG_step hSi hr hG (fun k s X' hk hkS hks hne => ?_) X).congr fun j _ _ _ => (hset j).symm
              cases hl : lookL s.upd X' with
              | none => rfl
              | some y =>
                exact absurd (anc_down hdown 6 i k (hconf' i k r s hr hks hk (confl_left (look_of_keys hne) (.inr (keys_of_look hl)))) hkS) hSi
            · obtain ⟨F, β, U, I, env, hg⟩ := R2.ex
              refine ⟨⟨F, β, U, I, env, hg.mono fun v hv => ?_⟩, R2.defers, R2.size⟩
              rcases hv with (h | ⟨j, hj, h⟩) | h
              · exact .inl h
              · exact .inr ⟨j, (hset j).2 (.inl hj), h⟩
              · exact .inr ⟨i, (hset i).2 (.inr rfl), h⟩
  refine wp_region_any hm (main ops.size (Array.replicate ops.size false) a { w with drawn := w.drawn + 1 } (by simp) ?_ ?_ ?_ (Stp.drew _ _ _))
  · refine Nat.le_trans (List.length_filter_le _ _) (by simp)
  · intro j o hj
    simp only [Array.getElem?_replicate] at hj
    split at hj <;> simp at hj
  · have hno : ∀ (j : Nat), ¬ ((Array.replicate ops.size false)[j]? = some true) := by
      intro j hj
      simp only [Array.getElem?_replicate] at hj
      split at hj <;> simp at hj
    refine ⟨st.look, st.ob, fun t x => ⟨fun h => .inr ⟨fun j o hj => absurd hj (hno j), h⟩, fun h => ?_⟩, fun X => .inr ⟨fun j r hj => absurd hj (hno j), rfl⟩, ?_⟩
    · rcases h with ⟨j, _, _, hj, _⟩ | ⟨_, h⟩
      · exact absurd hj (hno j)
      · exact h
    · obtain ⟨F, β, U, I, env, hg⟩ := R.ex
      exact ⟨⟨F, β, U, I, env, hg.mono fun v hv => .inl hv⟩, R.defers, R.size⟩
end
end Go.Proofs.YtnfhglplafmfiaaGreatE
