/- Soundness of the evaluator, last part, and its laws for simp. -/
import Derived.Test.YtnfhglplafmfiaaGreatAEc
import Derived.LoopN
namespace Go.Proofs.YtnfhglplafmfiaaGreatE
set_option linter.unusedSectionVars false
set_option linter.unusedSimpArgs false
set_option linter.unusedVariables false
open Go
set_option linter.unusedSectionVars false

section
variable {P : Program} {n0 : Nat} {Z : Zt} {M : Nat → Prop} {cx : Cx}

def toExit : Ex → Exit
  | .normal => .normal
  | .exit id => .exit id
  | .ret => .ret

theorem keepEnv_look {env : Env} : ∀ (ts : List Nat) (t : Nat) (x : AV), lookL (keepEnv env ts) t = some x → lookL env t = some x
  | [], _, _, h => by simp [keepEnv, lookL] at h
  | u :: ts, t, x, h => by
    simp only [keepEnv] at h
    split at h
    · rename_i y hy
      simp only [lookL] at h
      split at h
      · rename_i e; subst e; rw [hy]; exact h
      · exact keepEnv_look ts t x h
    · exact keepEnv_look ts t x h

theorem keepObs_look {o : Obs} : ∀ (ts : List Nat) (t : Nat) (x : Nat × Ob), obsL (keepObs o ts) t = some x → obsL o t = some x
  | [], _, _, h => by simp [keepObs, obsL, lookL] at h
  | u :: ts, t, x, h => by
    simp only [keepObs] at h
    split at h
    · rename_i y hy
      simp only [obsL, lookL] at h
      split at h
      · rename_i e; subst e; rw [hy]; simpa using h
      · exact keepObs_look ts t x h
    · exact keepObs_look ts t x h

theorem Inv.restrict {F : Frz} {β : Beta} {U : Nat → Prop} {O O' : Nat → Option (Nat × Ob)} {h : Heap} (I : Inv n0 M F β U O h) (hO : ∀ id x, O' id = some x → O id = some x) :
    Inv n0 M F (fun id => if (O' id).isSome then β id else none) U O' h ∧ Ext F h β U F h (fun id => if (O' id).isSome then β id else none) U := by
  have key : ∀ id v L, (fun id => if (O' id).isSome then β id else none) id = some (v, L) → β id = some (v, L) ∧ (O' id).isSome := by
    intro id v L h
    by_cases hs : (O' id).isSome
    · simp only [hs, if_true] at h; exact ⟨h, hs⟩
    · simp [hs] at h
  have E : Ext F h β U F h (fun id => if (O' id).isSome then β id else none) U :=
    ⟨fun _ h => h, fun _ _ => rfl, fun _ h => h, fun id v L _ hL => ⟨L, (key id v L hL).1, rfl, rfl, rfl, rfl, rfl⟩, fun _ h => h, fun _ h => .inl h⟩
  refine ⟨⟨?_, ?_, ?_, ?_, ?_, I.lt, I.le, I.low⟩, E⟩
  · intro id v ob h
    obtain ⟨L, hL, hr⟩ := I.objs id v ob (hO id _ h)
    exact ⟨L, by simp [h, hL], hr.ext E fun _ _ => rfl⟩
  · intro id v L h
    obtain ⟨hb, hs⟩ := key id v L h
    obtain ⟨ob, ho⟩ := I.only id v L hb
    obtain ⟨x, hx⟩ := Option.isSome_iff_exists.1 hs
    have := hO id x hx
    rw [ho] at this
    simp only [Option.some.injEq] at this
    exact ⟨ob, by rw [hx, ← this]⟩
  · exact fun id v L h => I.used id v L (key id v L h).1
  · exact fun id v L id2 v2 L2 h h2 => I.disj id v L id2 v2 L2 (key id v L h).1 (key id2 v2 L2 h2).1
  · exact fun id v L h => I.out id v L (key id v L h).1

theorem Rep.restrict {nt : Nat} {g : Nat → Prop} {st : St} {a : Act} {w : World} {k : Option (List Nat × List Nat)} (R : Rep n0 M Z nt g st.look st.ob a w) : Rep n0 M Z nt g (restrict k st).look (restrict k st).ob a w := by
  cases k with
  | none => exact R
  | some p =>
    obtain ⟨ts, ids⟩ := p
    obtain ⟨F, β, U, I, env, hg⟩ := R.ex
    obtain ⟨I', E⟩ := I.restrict (O' := (YtnfhglplafmfiaaGreatE.restrict (some (ts, ids)) st).ob) (fun id x h => keepObs_look ids id x h)
    refine ⟨⟨F, _, U, I', fun t x hx => ?_, ⟨hg.le, hg.zero, fun id L hL => ?_, hg.p1, hg.p2⟩⟩, R.defers, R.size⟩
    · obtain ⟨v, hv, r⟩ := env t x (keepEnv_look ts t x hx)
      exact ⟨v, hv, r.ext E⟩
    · obtain ⟨L1, h1, s1⟩ := E.eβ id 0 L hg.zero hL
      obtain ⟨L0, h0, s0⟩ := hg.z id L1 h1
      exact ⟨L0, h0, s0.trans s1⟩

theorem restrict_g {k : Option (List Nat × List Nat)} {st : St} : (restrict k st).g = st.g := by
  cases k with
  | none => rfl
  | some p => rfl

/-- Code, as the evaluator runs it. -/
theorem code_sound (hm : P.follows .mixedOrders = true) (hP : cx.P = P) (hS : CallSound P cx.call) {nt : Nat} : ∀ (c : Code) (st : St) (e : Ex) (st' : St) (a : Act) (w : World), okCode nt c = true →
    evalCode cx c st = some (e, st') → Rep n0 M Z nt (· < st.g) st.look st.ob a w →
    c.wp P (fun x a' w' => x = toExit e ∧ Rep n0 M Z nt (· < st'.g) st'.look st'.ob a' w' ∧ Stp n0 M w w') a w := by
  intro c
  induction c with
  | skip =>
    intro st e st' a w _ h R
    simp only [evalCode, Option.some.injEq, Prod.mk.injEq] at h
    obtain ⟨rfl, rfl⟩ := h
    exact wp_skip ⟨rfl, R, Stp.refl _ _ _⟩
  | label l =>
    intro st e st' a w _ h R
    simp only [evalCode, Option.some.injEq, Prod.mk.injEq] at h
    obtain ⟨rfl, rfl⟩ := h
    exact wp_label ⟨rfl, R, Stp.refl _ _ _⟩
  | exit id =>
    intro st e st' a w _ h R
    simp only [evalCode, Option.some.injEq, Prod.mk.injEq] at h
    obtain ⟨rfl, rfl⟩ := h
    exact wp_exit ⟨rfl, R, Stp.refl _ _ _⟩
  | ret =>
    intro st e st' a w _ h R
    simp only [evalCode, Option.some.injEq, Prod.mk.injEq] at h
    obtain ⟨rfl, rfl⟩ := h
    exact wp_ret ⟨rfl, R, Stp.refl _ _ _⟩
  | region id ops draw =>
    intro st e st' a w hok h R
    simp only [okCode, Bool.and_eq_true, Array.all_eq_true'] at hok
    have hdst : ∀ (i : Nat) (o : Oper), ops[i]? = some o → ∀ d, o.dst = some d → d < nt := by
      intro i o ho d hd
      have := hok.1 o (Array.mem_of_getElem? ho)
      simpa [hd] using this
    simp only [evalCode] at h
    cases draw with
    | true =>
      simp only [if_true] at h
      obtain ⟨st2, h1, h2⟩ := bnd_eq_some.1 h
      obtain ⟨st1, h3, h4⟩ := bnd_eq_some.1 h1
      simp only [fin, Option.some.injEq] at h4
      simp only [normal, Option.some.injEq, Prod.mk.injEq] at h2
      obtain ⟨rfl, rfl⟩ := h2
      subst h4
      exact draw_region hm hP hS hdst (by simpa using hok.2) h3 R fun a' w' R' S => ⟨rfl, R', S⟩
    | false =>
      simp only [Bool.false_eq_true, if_false] at h
      obtain ⟨st2, h1, h2⟩ := bnd_eq_some.1 h
      obtain ⟨st1, h3, h4⟩ := bnd_eq_some.1 h1
      simp only [fin, Option.some.injEq] at h4
      simp only [normal, Option.some.injEq, Prod.mk.injEq] at h2
      obtain ⟨rfl, rfl⟩ := h2
      subst h4
      refine wp_region ?_
      have := seq_region (Q := fun x a' w' => x = toExit .normal ∧ Rep n0 M Z nt (· < st1.g + ops.size) st1.look st1.ob a' w' ∧ Stp n0 M w w') hP hS hdst 0 ops.toList st a w (by simp) rfl h3 (by simpa using R)
        (fun a' w' R' S => ⟨rfl, R', S⟩)
      rw [Array.length_toList] at this
      rw [List.range_eq_range']
      exact this
  | seq x y ihx ihy =>
    intro st e st' a w hok h R
    simp only [okCode, Bool.and_eq_true] at hok
    simp only [evalCode] at h
    obtain ⟨⟨e1, st1⟩, h1, h2⟩ := bnd_eq_some.1 h
    refine wp_seq (wp_mono (ihx st e1 st1 a w hok.1 h1 R) fun x' a' w' hx => ?_)
    obtain ⟨rfl, R', S⟩ := hx
    cases e1 with
    | normal =>
      simp only [andThen] at h2
      exact wp_mono (ihy st1 e st' a' w' hok.2 h2 R') fun x' a2 w2 ⟨h1, h2, h3⟩ => ⟨h1, h2, S.trans h3⟩
    | exit id =>
      simp only [andThen, Option.some.injEq, Prod.mk.injEq] at h2
      obtain ⟨rfl, rfl⟩ := h2
      exact ⟨rfl, R', S⟩
    | ret =>
      simp only [andThen, Option.some.injEq, Prod.mk.injEq] at h2
      obtain ⟨rfl, rfl⟩ := h2
      exact ⟨rfl, R', S⟩
  | cond c x y ihx ihy =>
    intro st e st' a w hok h R
    simp only [okCode, Bool.and_eq_true] at hok
    simp only [evalCode] at h
    obtain ⟨t, h1, h2⟩ := bnd_eq_some.1 h
    obtain ⟨v, hv, ht⟩ := bnd_eq_some.1 h1
    obtain ⟨F, β, U, I, env, hg⟩ := R.ex
    have hc := asBool_rep (opnd_rep (ver := st.g) ⟨I, env, fun h => by have := hg.le _ h; omega⟩ hv) ht
    refine wp_cond hc ?_
    cases t with
    | true => simp only [if_true] at h2 ⊢; exact ihx st e st' a w hok.1 h2 R
    | false => simp only [Bool.false_eq_true, if_false] at h2 ⊢; exact ihy st e st' a w hok.2 h2 R
  | block id x ih =>
    intro st e st' a w hok h R
    simp only [okCode] at hok
    simp only [evalCode] at h
    obtain ⟨⟨e1, st1⟩, h1, h2⟩ := bnd_eq_some.1 h
    refine wp_block (wp_mono (ih st e1 st1 a w hok h1 R) fun x' a' w' hx => ?_)
    obtain ⟨rfl, R', S⟩ := hx
    cases e1 with
    | normal =>
      simp only [inBlock, Option.some.injEq, Prod.mk.injEq] at h2
      obtain ⟨rfl, rfl⟩ := h2
      exact ⟨rfl, R', S⟩
    | exit j =>
      simp only [inBlock] at h2
      simp only [toExit, Exit.inBlock]
      split at h2
      · rename_i hj
        simp only [Option.some.injEq, Prod.mk.injEq] at h2
        obtain ⟨rfl, rfl⟩ := h2
        rw [if_pos hj]; exact ⟨rfl, R', S⟩
      · rename_i hj
        simp only [Option.some.injEq, Prod.mk.injEq] at h2
        obtain ⟨rfl, rfl⟩ := h2
        rw [if_neg hj]; exact ⟨rfl, R', S⟩
    | ret =>
      simp only [inBlock, Option.some.injEq, Prod.mk.injEq] at h2
      obtain ⟨rfl, rfl⟩ := h2
      exact ⟨rfl, R', S⟩
  | loop x ih =>
    intro st e st' a w hok h R
    simp only [okCode] at hok
    simp only [evalCode] at h
    refine wp_loop_rounds cx.rounds ?_
    generalize cx.rounds = n at h
    generalize lookL cx.ann.keep (firstId x) = k at h
    have rounds : ∀ (n : Nat) (st : St) (a1 : Act) (w1 : World), iter (evalCode cx x) (restrict k) n st = some (e, st') → Rep n0 M Z nt (· < st.g) st.look st.ob a1 w1 → Stp n0 M w w1 →
        Code.rounds P x (fun x' a' w' => x' = toExit e ∧ Rep n0 M Z nt (· < st'.g) st'.look st'.ob a' w' ∧ Stp n0 M w w') n a1 w1 := by
      intro n
      induction n with
      | zero => intro st a1 w1 h; simp [iter] at h
      | succ n ihn =>
        intro st a1 w1 h R1 S1
        simp only [iter] at h
        obtain ⟨⟨e1, st1⟩, h1, h2⟩ := bnd_eq_some.1 h
        rw [rounds_succ]
        have R1' : Rep n0 M Z nt (· < (restrict k st).g) (restrict k st).look (restrict k st).ob a1 w1 := by rw [restrict_g]; exact R1.restrict
        refine wp_mono (ih (restrict k st) e1 st1 a1 w1 hok h1 R1') fun x' a' w' hx => ?_
        obtain ⟨rfl, R', S⟩ := hx
        cases e1 with
        | normal =>
          simp only [andThen] at h2
          exact ihn st1 a' w' h2 R' (S1.trans S)
        | exit id =>
          simp only [andThen, Option.some.injEq, Prod.mk.injEq] at h2
          obtain ⟨rfl, rfl⟩ := h2
          exact ⟨rfl, R', S1.trans S⟩
        | ret =>
          simp only [andThen, Option.some.injEq, Prod.mk.injEq] at h2
          obtain ⟨rfl, rfl⟩ := h2
          exact ⟨rfl, R', S1.trans S⟩
    exact rounds n st a w h R (Stp.refl _ _ _)
  | _ =>
    intros
    simp_all [evalCode]
end
end Go.Proofs.YtnfhglplafmfiaaGreatE

namespace Go.Proofs.YtnfhglplafmfiaaGreatE
set_option linter.unusedSectionVars false
set_option linter.unusedSimpArgs false
set_option linter.unusedVariables false
open Go
set_option linter.unusedSectionVars false

section
variable {P : Program} {n0 : Nat} {M : Nat → Prop} {F : Frz} {β : Beta} {U : Nat → Prop} {O : Nat → Option (Nat × Ob)} {a : Act} {w : World} {h : Heap}

def PInv (F : Frz) (h : Heap) (β : Beta) (U : Nat → Prop) (acc : List (Nat × Ob)) (Ls : List Loc) : Prop :=
  Ls.length = acc.length ∧ ∀ (j : Nat) (p : Nat × Ob) (L' : Loc), acc[j]? = some p → Ls[j]? = some L' → p.1 < 100000 ∧ (∃ v L, β p.1 = some (v, L) ∧ ∀ b ∈ L'.fp, b ∈ L.fp) ∧ flatOb p.2 = true ∧ ORep F h β U L' p.2 ∧
    ∀ (j2 : Nat) (p2 : Nat × Ob), j2 ≠ j → acc[j2]? = some p2 → p2.1 ≠ p.1

theorem PInv.snoc {acc : List (Nat × Ob)} {Ls : List Loc} (hp : PInv F h β U acc Ls) {id : Nat} {ob : Ob} {L' L : Loc} {v : Nat} (hid : id ∉ acc.map (·.1)) (hlt : id < 100000) (hβ : β id = some (v, L)) (hfp : ∀ b ∈ L'.fp, b ∈ L.fp) (hf : flatOb ob = true)
    (hr : ORep F h β U L' ob) : PInv F h β U (acc ++ [(id, ob)]) (Ls ++ [L']) := by
  obtain ⟨hl, hp⟩ := hp
  have hne : ∀ (j : Nat) (p : Nat × Ob), acc[j]? = some p → p.1 ≠ id := fun j p hj e => hid (e ▸ List.mem_map.2 ⟨p, List.mem_of_getElem? hj, rfl⟩)
  refine ⟨by simp [hl], fun j p L2 hj hL => ?_⟩
  rw [List.getElem?_append] at hj hL
  rw [hl] at hL
  split at hj
  · rename_i hlt'
    rw [if_pos hlt'] at hL
    obtain ⟨a1, a2, a3, a4, a5⟩ := hp j p L2 hj hL
    refine ⟨a1, a2, a3, a4, fun j2 p2 hj2 hp2 => ?_⟩
    rw [List.getElem?_append] at hp2
    split at hp2
    · exact a5 j2 p2 hj2 hp2
    · have : p2 = (id, ob) := by
        cases hk : j2 - acc.length with
        | zero => rw [hk] at hp2; simpa using hp2.symm
        | succ k => rw [hk] at hp2; simp at hp2
      subst this
      exact fun e => hne j p hj e.symm
  · rename_i hge
    rw [if_neg hge] at hL
    have hk : j - acc.length = 0 := by have := (List.getElem?_eq_some_iff.1 hj).1; simp at this; omega
    rw [hk] at hj hL
    simp only [List.getElem?_cons_zero, Option.some.injEq] at hj hL
    subst hj; subst hL
    refine ⟨hlt, ⟨v, L, hβ, hfp⟩, hf, hr, fun j2 p2 hj2 hp2 => ?_⟩
    rw [List.getElem?_append] at hp2
    split at hp2
    · exact hne j2 p2 hp2
    · exfalso
      have := (List.getElem?_eq_some_iff.1 hp2).1
      simp at this; omega

/-- What a packed value stands for. -/
def Packed (F : Frz) (h : Heap) (β : Beta) (Ls : List Loc) (x : AV) (v : Value) : Prop :=
  ∀ β1 : Beta, (∀ (j : Nat) (L L2 : Loc), Ls[j]? = some L → β1 j = some (0, L2) → L2 = L) → (∀ (j : Nat) (L : Loc), 100000 ≤ j → β1 j = some (0, L) → β j = some (0, L)) → VRep F.good h β1 (· = 0) x v

theorem Packed.more {Ls Ls' : List Loc} {x : AV} {v : Value} (hp : Packed F h β Ls x v) : Packed F h β (Ls ++ Ls') x v := fun β1 hb => hp β1 fun j L L2 hj => hb j L L2 (by
  rw [List.getElem?_append_left (List.getElem?_eq_some_iff.1 hj).1]; exact hj)

theorem blockOf_nodup (x : Value) : (blockOf x).Nodup := by
  unfold blockOf; split <;> simp

theorem pick_nodup {inner : List Value} (hn : (inner.flatMap blockOf).Nodup) : ∀ ks : List Nat, ks.Nodup → (∀ k ∈ ks, k < inner.length) → ((ks.map fun k => inner.getD k undef).flatMap blockOf).Nodup
  | [], _, _ => by simp
  | k :: ks, hk, hl => by
    simp only [List.nodup_cons] at hk
    simp only [List.map_cons, List.flatMap_cons, List.nodup_append]
    have hkl := hl k (by simp)
    refine ⟨blockOf_nodup _, pick_nodup hn ks hk.2 (fun j hj => hl j (by simp [hj])), fun a ha b hb e => ?_⟩
    subst e
    obtain ⟨x, hx, hbx⟩ := List.mem_flatMap.1 hb
    obtain ⟨j, hj, rfl⟩ := List.mem_map.1 hx
    have hjl := hl j (by simp [hj])
    have e1 : inner.getD k undef = inner[k] := by simp [List.getD, hkl]
    have e2 : inner.getD j undef = inner[j] := by simp [List.getD, hjl]
    rw [e1] at ha
    rw [e2] at hbx
    exact nodup_two hn (show k ≠ j from fun e => hk.1 (e ▸ hj)) (List.getElem?_eq_getElem hkl) (List.getElem?_eq_getElem hjl) ha hbx

theorem ownRows_rep {inner : List Value} {rows rs : List (List D)} {cs : List PC} {c : Array Value} {o : Nat} (hi : inner.length = rows.length) (hR : ∀ (k : Nat) (r : List D) (x : Value), rows[k]? = some r → inner[k]? = some x → RowV F h r x)
    (hn : (inner.flatMap blockOf).Nodup) (ho : ownRows rows cs = some rs) (hv : ∀ (i : Nat) (p : PC), cs[i]? = some p → ∃ v, c[o + i]? = some v ∧ PRep F h inner p v) :
    ∃ inner' : List Value, inner'.length = rs.length ∧ rs.length = cs.length ∧ (∀ (i : Nat) (x : Value), inner'[i]? = some x → c[o + i]? = some x) ∧ (∀ (i : Nat) (r : List D) (x : Value), rs[i]? = some r → inner'[i]? = some x → RowV F h r x) ∧
      (inner'.flatMap blockOf).Nodup ∧ ∀ b ∈ inner'.flatMap blockOf, b ∈ inner.flatMap blockOf := by
  unfold ownRows at ho
  obtain ⟨ks, hks, ho⟩ := bnd_eq_some.1 ho
  obtain ⟨hkn, ho⟩ := ite_some.1 ho
  obtain ⟨k1, _⟩ := mapO_spec hks
  obtain ⟨k2, _⟩ := mapO_spec ho
  have hlt : ∀ k ∈ ks, k < inner.length := by
    intro k hk
    obtain ⟨i, hil, rfl⟩ := List.mem_iff_getElem.1 hk
    have hir : i < rs.length := by omega
    obtain ⟨k', hk', hr⟩ := mapO_get ho (List.getElem?_eq_getElem hir)
    rw [List.getElem?_eq_getElem hil] at hk'
    simp only [Option.some.injEq] at hk'
    subst hk'
    rw [hi]
    exact (List.getElem?_eq_some_iff.1 hr).1
  have get : ∀ (i : Nat) (x : Value), (ks.map fun k => inner.getD k undef)[i]? = some x → ∃ k, ks[i]? = some k ∧ inner[k]? = some x := by
    intro i x hx
    simp only [List.getElem?_map, Option.map_eq_some_iff] at hx
    obtain ⟨k, hk, rfl⟩ := hx
    have := hlt k (List.mem_of_getElem? hk)
    exact ⟨k, hk, by simp [List.getD, this]⟩
  refine ⟨ks.map fun k => inner.getD k undef, by simp [k2], by omega, fun i x hx => ?_, fun i r x hr hx => ?_, pick_nodup hn ks hkn hlt, fun b hb => ?_⟩
  · obtain ⟨k, hk, hxk⟩ := get i x hx
    obtain ⟨p, hp, hf⟩ := mapO_get hks hk
    obtain ⟨v, hv1, hv2⟩ := hv i p hp
    cases p with
    | d y => simp at hf
    | r k' =>
      simp only [Option.some.injEq] at hf
      subst hf
      have : inner[k']? = some v := hv2
      rw [hxk] at this
      rw [Option.some.inj this]
      exact hv1
  · obtain ⟨k, hk, hxk⟩ := get i x hx
    obtain ⟨k', hk', hf⟩ := mapO_get ho hr
    rw [hk] at hk'
    simp only [Option.some.injEq] at hk'
    subst hk'
    exact hR k r x hf hxk
  · obtain ⟨x, hx, hbx⟩ := List.mem_flatMap.1 hb
    obtain ⟨i, hil, hx2⟩ := List.mem_iff_getElem.1 hx
    obtain ⟨k, hk, hxk⟩ := get i x (by rw [← hx2]; exact List.getElem?_eq_getElem hil)
    exact List.mem_flatMap.2 ⟨x, List.mem_of_getElem? hxk, hbx⟩

theorem pack_rep (I : Inv n0 M F β U O h) : ∀ (n : Nat) (x : AV) (v : Value) (acc : List (Nat × Ob)) (x' : AV) (acc' : List (Nat × Ob)) (Ls : List Loc), pack O n x acc = some (x', acc') → VRep F h β U x v → PInv F h β U acc Ls →
    ∃ Ls', PInv F h β U acc' (Ls ++ Ls') ∧ Packed F h β (Ls ++ Ls') x' v := by
  intro n
  induction n with
  | zero => intro x v acc x' acc' Ls hp; simp [pack] at hp
  | succ n ih =>
    have golist : ∀ (cs : List AV) (vs : List Value) (acc : List (Nat × Ob)) (ys : List AV) (acc' : List (Nat × Ob)) (Ls : List Loc), pack.go (pack O n) cs acc = some (ys, acc') → LRel F h β U cs vs → PInv F h β U acc Ls →
        ∃ Ls', PInv F h β U acc' (Ls ++ Ls') ∧ ys.length = vs.length ∧ ∀ (i : Nat) (y : AV) (u : Value), ys[i]? = some y → vs[i]? = some u → Packed F h β (Ls ++ Ls') y u := by
      intro cs
      induction cs with
      | nil =>
        intro vs acc ys acc' Ls hp R hI
        simp only [pack.go, Option.some.injEq, Prod.mk.injEq] at hp
        obtain ⟨rfl, rfl⟩ := hp
        exact ⟨[], by simpa using hI, by simpa using R.1, fun i y u hy _ => by simp at hy⟩
      | cons c cs ihc =>
        intro vs acc ys acc' Ls hp R hI
        obtain ⟨u, us, rfl, r1, r2⟩ := R.uncons
        simp only [pack.go] at hp
        obtain ⟨⟨y, acc1⟩, h1, hp⟩ := bnd_eq_some.1 hp
        obtain ⟨⟨ys', acc2⟩, h2, hp⟩ := bnd_eq_some.1 hp
        simp only [Option.some.injEq, Prod.mk.injEq] at hp
        obtain ⟨rfl, rfl⟩ := hp
        obtain ⟨L1, p1, q1⟩ := ih c u acc y acc1 Ls h1 r1 hI
        obtain ⟨L2, p2, q2, q3⟩ := ihc us acc1 ys' acc2 (Ls ++ L1) h2 r2 p1
        refine ⟨L1 ++ L2, by rw [← List.append_assoc]; exact p2, by simp [q2], fun i z t hz ht => ?_⟩
        rw [← List.append_assoc]
        cases i with
        | zero =>
          simp only [List.getElem?_cons_zero, Option.some.injEq] at hz ht
          subst hz; subst ht
          exact q1.more
        | succ i => exact q3 i z t (by simpa using hz) (by simpa using ht)
    intro x v acc x' acc' Ls hp r hI
    have ownCase : ∀ {id rv : Nat} {ob : Ob} {L L' : Loc} {o len cap : Nat}, id ∉ acc.map (·.1) → ¬ 100000 ≤ id → β id = some (rv, L) → (∀ b ∈ L'.fp, b ∈ L.fp) → flatOb ob = true → ORep F h β U L' ob → L' = ⟨L.block, o, len, cap, L'.inner, L'.fp⟩ →
        v = .slice (some ⟨L.block, o, none⟩) len cap → (x', acc') = (.own acc.length 0, acc ++ [(id, ob)]) → ∃ Ls', PInv F h β U acc' (Ls ++ Ls') ∧ Packed F h β (Ls ++ Ls') x' v := by
      intro id rv ob L L' o len cap hni hlt hβ hfp hf hr hL' hv he
      simp only [Prod.mk.injEq] at he
      obtain ⟨rfl, rfl⟩ := he
      refine ⟨[L'], hI.snoc hni (by omega) hβ hfp hf hr, fun β1 hb _ => .own _ _ _ (by rw [hv]; rfl) rfl fun L2 hL2 => ?_⟩
      have : L2 = L' := hb acc.length L' L2 (by rw [← hI.1]; simp) hL2
      subst this
      rw [hv, hL']
    cases r with
    | d x v hd =>
      simp only [pack] at hp
      obtain ⟨hpl, hp⟩ := ite_some.1 hp
      simp only [Option.some.injEq, Prod.mk.injEq] at hp
      obtain ⟨rfl, rfl⟩ := hp
      exact ⟨[], by simpa using hI, fun β1 _ _ => .d _ _ (ret_rep (F' := F.good) (fun _ h => ⟨h, h⟩) hpl hd)⟩
    | ptr id rv off v ho hu hv =>
      simp only [pack] at hp
      split at hp
      · simp at hp
      rename_i hge
      split at hp
      · simp at hp
      rename_i hni
      split at hp
      · rename_i cells hat
        obtain ⟨L, hL, hr⟩ := I.objs id rv _ (at_iff.1 hat)
        obtain ⟨⟨rfl, hfl⟩, hp2⟩ := ite_some.1 hp
        clear hp
        simp only [Option.some.injEq, Prod.mk.injEq] at hp2
        obtain ⟨rfl, rfl⟩ := hp2
        refine ⟨[L], hI.snoc hni (by omega) hL (fun _ h => h) hfl hr, fun β1 hb _ => .ptr _ _ _ _ ho rfl fun L2 hL2 => ?_⟩
        have : L2 = L := hb acc.length L L2 (by rw [← hI.1]; simp) hL2
        subst this
        exact hv _ hL
      · rename_i w' rows cells hat
        obtain ⟨L, hL, hr⟩ := I.objs id rv _ (at_iff.1 hat)
        obtain ⟨⟨rfl, hfl⟩, hp2⟩ := ite_some.1 hp
        clear hp
        simp only [Option.some.injEq, Prod.mk.injEq] at hp2
        obtain ⟨rfl, rfl⟩ := hp2
        refine ⟨[L], hI.snoc hni (by omega) hL (fun _ h => h) hfl hr, fun β1 hb _ => .ptr _ _ _ _ ho rfl fun L2 hL2 => ?_⟩
        have : L2 = L := hb acc.length L L2 (by rw [← hI.1]; simp) hL2
        subst this
        exact hv _ hL
      · simp at hp
    | own id rv v ho hu hv =>
      simp only [pack] at hp
      split at hp
      · rename_i hge
        split at hp
        · rename_i ob hat
          obtain ⟨⟨hv0, _⟩, hp2⟩ := ite_some.1 hp
          clear hp
          simp only [Option.some.injEq, Prod.mk.injEq] at hp2
          obtain ⟨rfl, rfl⟩ := hp2
          subst hv0
          exact ⟨[], by simpa using hI, fun β1 _ hk => .own _ _ _ ho rfl fun L hL => hv L (hk id L hge hL)⟩
        · simp at hp
      · rename_i hge
        split at hp
        · simp at hp
        rename_i hc0
        have hc : id ∉ acc.map (·.1) ∧ ¬ 100000 ≤ id := ⟨hc0, hge⟩
        split at hp
        · rename_i cells hat
          obtain ⟨L, hL, hr⟩ := I.objs id rv _ (at_iff.1 hat)
          obtain ⟨hfl, hp⟩ := ite_some.1 hp
          exact ownCase (L' := L) hc.1 hc.2 hL (fun _ h => h) hfl hr rfl (hv L hL) (Option.some.inj hp).symm
        · rename_i op rows hat
          obtain ⟨L, hL, l, l', c, e, inner, hh, hs, hi', g1, g2, g3, g4, g5⟩ := I.objs id rv _ (at_iff.1 hat)
          obtain ⟨hfl, hp⟩ := ite_some.1 hp
          exact ownCase (ob := .mat false rows) (L := L) (L' := { L with inner := inner }) hc.1 hc.2 hL (fun _ h => h) hfl ⟨l, l', c, e, inner, hh, hs, hi', g1, g2, rfl, g4, g5⟩ rfl (hv L hL) (Option.some.inj hp).symm
        · rename_i w' rows cells hat
          obtain ⟨hw, hp2⟩ := ite_some.1 hp
          subst hw
          obtain ⟨rs, hrs, hp3⟩ := bnd_eq_some.1 hp2
          obtain ⟨hfl, hp3⟩ := ite_some.1 hp3
          obtain ⟨L, hL, l0, l, l', hi2, ⟨c, e, hh, hs, g1⟩, g2, g4, g5⟩ := I.objs id rv _ (at_iff.1 hat)
          rw [g4, List.nodup_cons] at g5
          obtain ⟨inner', q1, q2, q3, q4, q5, q6⟩ := ownRows_rep (F := F) hi2 g2 g5.2 hrs g1
          exact ownCase (ob := .mat false rs) (L := L) (L' := { L with inner := inner', fp := L.block :: inner'.flatMap blockOf }) hc.1 hc.2 hL (fun b hb => by
            rw [g4]
            simp only [List.mem_cons] at hb ⊢
            exact hb.imp (fun h => h) (q6 b)) hfl ⟨by show L.len = _; omega, l', c, e, inner', hh, by simpa using hs, q1, q3, q4, rfl, rfl, by
            rw [List.nodup_cons]; exact ⟨fun hm => g5.1 (q6 _ hm), q5⟩⟩ rfl (hv L hL) (Option.some.inj hp3).symm
        · simp at hp
    | sub id rv off len v ho hu hv =>
      simp only [pack] at hp
      split at hp
      · rename_i hge
        split at hp
        · rename_i cells hat
          obtain ⟨hv0, hp2⟩ := ite_some.1 hp
          clear hp
          simp only [Option.some.injEq, Prod.mk.injEq] at hp2
          obtain ⟨rfl, rfl⟩ := hp2
          subst hv0
          exact ⟨[], by simpa using hI, fun β1 _ hk => .sub _ _ _ _ _ ho rfl fun L hL => hv L (hk id L hge hL)⟩
        · obtain ⟨hv0, hp2⟩ := ite_some.1 hp
          clear hp
          simp only [Option.some.injEq, Prod.mk.injEq] at hp2
          obtain ⟨rfl, rfl⟩ := hp2
          subst hv0
          exact ⟨[], by simpa using hI, fun β1 _ hk => .sub _ _ _ _ _ ho rfl fun L hL => hv L (hk id L hge hL)⟩
        · simp at hp
      · rename_i hge
        split at hp
        · simp at hp
        rename_i hc0
        have hc : id ∉ acc.map (·.1) ∧ ¬ 100000 ≤ id := ⟨hc0, hge⟩
        split at hp
        · rename_i cells hat
          obtain ⟨L, hL, f, l, hB⟩ := I.objs id rv _ (at_iff.1 hat)
          obtain ⟨h1, o, h2, h3, h4⟩ := hv L hL
          obtain ⟨c, e, hh, hs, hlc, hx⟩ := hB
          obtain ⟨hfl, hp⟩ := ite_some.1 hp
          have hlen : ((cells.drop off).take len).length = len := by simp; omega
          refine ownCase (ob := .row ((cells.drop off).take len)) (L := L) (L' := ⟨L.block, o, len, L.cap - off, [], L.fp⟩) hc.1 hc.2 hL (fun _ h => h) hfl ⟨f, hlen.symm, c, e, hh, ?_, by rw [hlen]; show len ≤ L.cap - off; omega, fun j d hd => ?_⟩ rfl h2 (Option.some.inj hp).symm
          · show o + (L.cap - off) ≤ c.size
            by_cases hlt : off < L.cap
            · have := h3 hlt; omega
            · omega
          · have hj : j < len := by have := (List.getElem?_eq_some_iff.1 hd).1; omega
            rw [List.getElem?_take, if_pos hj, List.getElem?_drop] at hd
            obtain ⟨g1, u, g2, g3⟩ := hx _ d hd
            refine ⟨g1, u, ?_, g3⟩
            show c[o + j]? = _
            rw [h3 (by omega), Nat.add_assoc]; exact g2
        · rename_i w' rows cells hat
          obtain ⟨hw, hp2⟩ := ite_some.1 hp
          subst hw
          obtain ⟨rs, hrs, hp3⟩ := bnd_eq_some.1 hp2
          obtain ⟨hfl, hp3⟩ := ite_some.1 hp3
          obtain ⟨L, hL, l0, l, l', hi2, ⟨c, e, hh, hs, g1⟩, g2, g4, g5⟩ := I.objs id rv _ (at_iff.1 hat)
          obtain ⟨h1, o, h2, h3, h4⟩ := hv L hL
          rw [g4, List.nodup_cons] at g5
          have hlen : ((cells.drop off).take len).length = len := by simp; omega
          obtain ⟨inner', q1, q2, q3, q4, q5, q6⟩ := ownRows_rep (F := F) (o := o) hi2 g2 g5.2 hrs (fun i p hp => by
            have hj : i < len := by have := (List.getElem?_eq_some_iff.1 hp).1; omega
            rw [List.getElem?_take, if_pos hj, List.getElem?_drop] at hp
            obtain ⟨v, hv1, hv2⟩ := g1 _ p hp
            exact ⟨v, by rw [h3 (by omega), Nat.add_assoc]; exact hv1, hv2⟩)
          exact ownCase (ob := .mat false rs) (L := L) (L' := ⟨L.block, o, len, L.cap - off, inner', L.block :: inner'.flatMap blockOf⟩) hc.1 hc.2 hL (fun b hb => by
            rw [g4]
            simp only [List.mem_cons] at hb ⊢
            exact hb.imp (fun h => h) (q6 b)) hfl ⟨by show len = _; omega, by show len ≤ L.cap - off; omega, c, e, inner', hh, by
              show o + (L.cap - off) ≤ c.size
              by_cases hlt : off < L.cap
              · have := h3 hlt; omega
              · omega, q1, q3, q4, rfl, rfl, by
            rw [List.nodup_cons]; exact ⟨fun hm => g5.1 (q6 _ hm), q5⟩⟩ rfl h2 (Option.some.inj hp3).symm
        · simp at hp
    | agg cells vs hl hr =>
      simp only [pack] at hp
      obtain ⟨⟨ys, acc1⟩, h1, hp⟩ := bnd_eq_some.1 hp
      simp only [Option.some.injEq, Prod.mk.injEq] at hp
      obtain ⟨rfl, rfl⟩ := hp
      obtain ⟨Ls', p1, p2, p3⟩ := golist cells vs.toList acc ys acc1 Ls h1 ⟨by simpa using hl, fun i y u hy hu => hr i y u hy (by simpa using hu)⟩ hI
      exact ⟨Ls', p1, fun β1 hb hk => .agg _ _ (by simpa using p2) fun i y u hy hu => p3 i y u hy (by simpa using hu) β1 hb hk⟩
    | tuple cells vs hl hr =>
      simp only [pack] at hp
      obtain ⟨⟨ys, acc1⟩, h1, hp⟩ := bnd_eq_some.1 hp
      simp only [Option.some.injEq, Prod.mk.injEq] at hp
      obtain ⟨rfl, rfl⟩ := hp
      obtain ⟨Ls', p1, p2, p3⟩ := golist cells vs.toList acc ys acc1 Ls h1 ⟨by simpa using hl, fun i y u hy hu => hr i y u hy (by simpa using hu)⟩ hI
      exact ⟨Ls', p1, fun β1 hb hk => .tuple _ _ (by simpa using p2) fun i y u hy hu => p3 i y u hy (by simpa using hu) β1 hb hk⟩
    | _ => simp [pack] at hp

theorem look_argEnv : ∀ (args : List AV) (i t : Nat), lookL (argEnv i args) t = if i ≤ t then args[t - i]? else none
  | [], i, t => by simp [argEnv, lookL]
  | x :: as, i, t => by
    simp only [argEnv, lookL]
    by_cases h : i = t
    · subst h; simp
    · rw [if_neg h, look_argEnv as (i + 1) t]
      by_cases h2 : i ≤ t
      · rw [if_pos h2, if_pos (by omega), show t - i = (t - (i + 1)) + 1 by omega]; simp
      · rw [if_neg h2, if_neg (by omega)]

theorem ob_lentObs : ∀ (os : List Ob) (i id : Nat), obsL (lentObs i os) id = if 100000 + i ≤ id then (os[id - (100000 + i)]?).map (fun o => (0, o)) else none
  | [], i, id => by simp [lentObs, obsL, lookL]
  | o :: os, i, id => by
    have ih := ob_lentObs os (i + 1) id
    simp only [obsL] at ih ⊢
    simp only [lentObs, lookL]
    by_cases h : 100000 + i = id
    · subst h; simp
    · rw [if_neg h, ih]
      by_cases h2 : 100000 + i ≤ id
      · rw [if_pos h2, if_pos (by omega), show id - (100000 + i) = (id - (100000 + (i + 1))) + 1 by omega]; simp
      · rw [if_neg h2, if_neg (by omega)]

theorem get_lentEnd : ∀ (os : List Ob) (i j : Nat), (lentEnd O i os)[j]? = if j < os.length then some (match at_ O (100000 + (i + j)) 0 with | some ob => if flatOb ob = true then some ob else none | none => none) else none
  | [], i, j => by simp [lentEnd]
  | o :: os, i, 0 => by simp only [lentEnd, List.getElem?_cons_zero, List.length_cons, Nat.add_zero, Nat.zero_lt_succ, if_true]; rfl
  | o :: os, i, j + 1 => by
    simp only [lentEnd, List.getElem?_cons_succ, List.length_cons, Nat.add_lt_add_iff_right]
    rw [get_lentEnd os (i + 1) j, show i + 1 + j = i + (j + 1) by omega]

theorem run_mapM {α : Type} {f : α → Sem Value} : ∀ (l : List α) (vs : List Value), l.length = vs.length → (∀ (i : Nat) (x : α) (v : Value), l[i]? = some x → vs[i]? = some v → (f x).run P w = .ok v w) → (l.mapM f).run P w = .ok vs w
  | [], [], _, _ => by simp
  | x :: l, v :: vs, hl, hf => by
    have h1 := hf 0 x v rfl rfl
    have h2 := run_mapM l vs (by simpa using hl) (fun i x v hx hv => hf (i + 1) x v hx hv)
    simp [List.mapM_cons, h1, h2]
  | [], _ :: _, hl, _ => by simp at hl
  | _ :: _, [], hl, _ => by simp at hl

theorem loadVar_rep (I : Inv n0 M F β U O w.heap) {t : TypeId} {p x : AV} {v : Value} (rp : VRep F w.heap β U p v)
    (hx : (match tk P t with | .struct _ => bnd (cellsN O (sz P t) p) fun cs => some (AV.agg cs) | .other => none | _ => cell1 O p) = some x) :
    ∃ b off u, v = .pointer (some ⟨b, off, none⟩) ∧ (loadVar t ⟨b, off, none⟩).run P w = .ok u w ∧ VRep F w.heap β U x u := by
  have one : ∀ {d : TypeDesc}, P.underlying t = some d → (∀ fs, d ≠ .struct fs) → (∀ n e, d ≠ .array n e) → cell1 O p = some x → ∃ b off u, v = .pointer (some ⟨b, off, none⟩) ∧ (loadVar t ⟨b, off, none⟩).run P w = .ok u w ∧ VRep F w.heap β U x u := by
    intro d hd hns hna hc
    obtain ⟨b, off, u, he, hcell, hr⟩ := cell1_rep I rp hc
    refine ⟨b, off, u, he, ?_, hr⟩
    have hagg : (isAgg t).run P w = .ok false w := by
      simp only [isAgg, Sem.run_bind, run_und hd, Result.andThen]
      cases d <;> first | rfl | exact absurd rfl (hns _) | exact absurd rfl (hna _ _)
    simp [loadVar, hagg, cell?_eq, hcell]
  split at hx
  · rename_i fs htk
    obtain ⟨cs, hc, hx⟩ := bnd_eq_some.1 hx
    have hx := Option.some.inj hx
    subst hx
    obtain ⟨fs', hund, _⟩ := tk_struct htk
    obtain ⟨i, hi⟩ := info_of_und hund
    obtain ⟨b, off, us, he, hl, hl', hcell, hr⟩ := cellsN_rep I rp hc
    refine ⟨b, off, .agg us.toArray, he, ?_, .agg _ _ (by simp; omega) fun j x u hx hu => hr j x u hx (by simpa using hu)⟩
    have hagg : (isAgg t).run P w = .ok true w := by
      simp only [isAgg, Sem.run_bind, run_und hund, Result.andThen]; rfl
    have hload := run_loadCells_list (P := P) w ⟨b, off, none⟩ us (fun j v hv => (add_cell b off j).trans (hcell j v hv))
    rw [hl] at hload
    simp [loadVar, hagg, run_sizeOf hi, hload]
  · simp at hx
  · rename_i h1 h2
    cases htk : tk P t with
    | slice e => exact one (tk_slice htk) (by simp) (by simp) hx
    | int k => exact one (tk_int htk) (by simp) (by simp) hx
    | bool => exact one (tk_bool htk) (by simp) (by simp) hx
    | string => exact one (tk_string htk) (by simp) (by simp) hx
    | func => obtain ⟨_, _, _, hu⟩ := tk_func htk; exact one hu (by simp) (by simp) hx
    | struct fs => exact absurd htk (h1 fs)
    | other => exact absurd htk h2

def resM (tmps : Array Value) : ResultVar → Sem Value
  | .tmp t => pure (tmps.getD t undef)
  | .cell b t => do loadVar t (← asAddr (tmps.getD b undef))

theorem results_eq (fn : Func) (tmps : Array Value) : results fn tmps = (do let vs ← fn.results.mapM (resM tmps); pure (if h : vs.size = 1 then vs[0] else .tuple vs)) := by
  unfold results
  congr 2

theorem results_rep (I : Inv n0 M F β U O w.heap) {st : St} (hO : st.ob = O) (env : ∀ t x, st.look t = some x → ∃ v, a.tmps[t]? = some v ∧ VRep F w.heap β U x v) {fn : Func} {x : AV} (h : resAll P st fn.results.toList = some x) :
    ∃ v, (results fn a.tmps).run P w = .ok v w ∧ VRep F w.heap β U x v := by
  subst hO
  unfold resAll at h
  obtain ⟨xs, hxs, h1⟩ := bnd_eq_some.1 h
  have each : ∀ (rv : ResultVar) (x : AV), resVal P st rv = some x → ∃ v, (resM a.tmps rv).run P w = .ok v w ∧ VRep F w.heap β U x v := by
    intro rv x hx
    cases rv with
    | tmp t =>
      obtain ⟨v, hv, r⟩ := env t x hx
      exact ⟨v, by simp [resM, Array.getD_eq_getD_getElem?, hv], r⟩
    | cell b t =>
      simp only [resVal] at hx
      obtain ⟨p, hp, hx⟩ := bnd_eq_some.1 hx
      obtain ⟨v, hv, rp⟩ := env b p hp
      obtain ⟨b', off, u, he, hr, hu⟩ := loadVar_rep (P := P) I rp hx
      exact ⟨u, by simp [resM, Array.getD_eq_getD_getElem?, hv, he, asAddr, hr], hu⟩
  obtain ⟨k1, k2⟩ := mapO_spec hxs
  -- the values
  have hvs : ∃ vs : List Value, vs.length = xs.length ∧ ∀ (i : Nat) (rv : ResultVar) (x : AV), fn.results.toList[i]? = some rv → xs[i]? = some x → ∃ v, vs[i]? = some v ∧
      (resM a.tmps rv).run P w = .ok v w ∧ VRep F w.heap β U x v := by
    clear h h1
    generalize fn.results.toList = l at k1 k2 hxs
    clear hxs
    induction l generalizing xs with
    | nil =>
      have : xs = [] := List.eq_nil_of_length_eq_zero (by simpa using k1.symm)
      subst this
      exact ⟨[], rfl, fun i rv x hi => by simp at hi⟩
    | cons rv l ih =>
      cases xs with
      | nil => simp at k1
      | cons x xs =>
        obtain ⟨vs, q1, q2⟩ := ih xs (by simpa using k1) (fun i rv x hi hx => k2 (i + 1) rv x hi hx)
        obtain ⟨v, hv1, hv2⟩ := each rv x (k2 0 rv x rfl rfl)
        refine ⟨v :: vs, by simp [q1], fun i rv' x' hi hx => ?_⟩
        cases i with
        | zero =>
          simp only [List.getElem?_cons_zero, Option.some.injEq] at hi hx
          subst hi; subst hx
          exact ⟨v, rfl, hv1, hv2⟩
        | succ i => simpa using q2 i rv' x' (by simpa using hi) (by simpa using hx)
  obtain ⟨vs, q1, q2⟩ := hvs
  have hrun : (fn.results.mapM (resM a.tmps)).run P w = .ok vs.toArray w := by
    rw [Array.mapM_eq_mapM_toList]
    have := run_mapM (P := P) (w := w) (f := resM a.tmps) fn.results.toList vs (by omega) (fun i rv v hi hv => by
      have hxi : i < xs.length := by rw [← k1]; exact (List.getElem?_eq_some_iff.1 hi).1
      obtain ⟨v', a1, a2, _⟩ := q2 i rv xs[i] hi (by simp [hxi])
      rw [a1] at hv
      simp only [Option.some.injEq] at hv; subst hv; exact a2)
    simp [this]
  have hrel : ∀ (i : Nat) (x : AV) (u : Value), xs[i]? = some x → vs[i]? = some u → VRep F w.heap β U x u := by
    intro i x u hx hu
    have hi : i < fn.results.toList.length := by rw [k1]; exact (List.getElem?_eq_some_iff.1 hx).1
    obtain ⟨v', a1, _, a3⟩ := q2 i _ x (List.getElem?_eq_getElem hi) hx
    rw [a1] at hu
    simp only [Option.some.injEq] at hu; subst hu; exact a3
  refine ⟨if h : vs.toArray.size = 1 then vs.toArray[0] else .tuple vs.toArray, ?_, ?_⟩
  · rw [results_eq, Sem.run_bind, hrun]; rfl
  · split at h1
    · rename_i y
      have h1 := Option.some.inj h1
      subst h1
      obtain ⟨u, rfl⟩ := List.length_eq_one_iff.1 (by simpa using q1)
      exact hrel 0 _ u rfl rfl
    · rename_i hne
      have h1 := Option.some.inj h1
      subst h1
      have : vs.length ≠ 1 := by
        intro e
        obtain ⟨y, hy⟩ := List.length_eq_one_iff.1 (q1.symm.trans e)
        exact hne y hy
      rw [dif_neg (by simpa using this)]
      exact .tuple _ _ (by simpa using q1.symm) fun i x u hx hu => hrel i x u hx (by simpa using hu)
end
end Go.Proofs.YtnfhglplafmfiaaGreatE

namespace Go.Proofs.YtnfhglplafmfiaaGreatE
set_option linter.unusedSectionVars false
set_option linter.unusedSimpArgs false
set_option linter.unusedVariables false
open Go
set_option linter.unusedSectionVars false

theorem lentO_eq (lent : List Ob) : obsL (lentObs 0 lent) = lentO lent := by
  funext id
  rw [ob_lentObs]
  simp [lentO]

theorem fbody_spec {P : Program} {k : FuncId} {fb : FB} (h : fbody P k = some fb) : ∃ fn, P.funcs[k]? = some fn ∧ (fn.name == "runtime.NumGoroutine") = false ∧ fn.body = some fb.body ∧ okCode fn.ntmps fb.body = true ∧ fb.results = fn.results.toList := by
  unfold fbody at h
  split at h
  · rename_i fn hfn
    split at h
    · simp at h
    · rename_i hname
      split at h
      · rename_i c hc
        obtain ⟨hok, h⟩ := ite_some.1 h
        have h := Option.some.inj h
        subst h
        exact ⟨fn, hfn, by simpa using hname, hc, hok, rfl⟩
      · simp at h
  · simp at h

/-- THE EVALUATOR IS SOUND: what it gives for a call is what the call comes to. -/
theorem evalCall_sound {P : Program} (hm : P.follows .mixedOrders = true) (A : Ann) : ∀ n, CallSound P (evalCall P A n)
  | 0 => fun k args lent r h => by simp [evalCall] at h
  | n + 1 => fun k args lent r h => by
    have ih := evalCall_sound hm A n
    simp only [evalCall] at h
    obtain ⟨fb, hfb, h1⟩ := bnd_eq_some.1 h
    obtain ⟨⟨e, st⟩, h2, h3⟩ := bnd_eq_some.1 h1
    obtain ⟨fn, hfn, hname, hbody, hok, hres⟩ := fbody_spec hfb
    refine ⟨?_, fn, hfn, hname, by simp [hbody]⟩
    clear h h1 hfb
    intro w F vals Ls hLs I0 R0
    refine calls_of_wp hfn hbody ?_
    -- the frame at its start
    have hstart : Rep w.heap.size (lentM Ls) ⟨fun id => (lentB Ls id).map (·.2), F.p⟩ fn.ntmps (· < 1) (St.mk (argEnv 0 args) (lentObs 0 lent) 1).look (St.mk (argEnv 0 args) (lentObs 0 lent) 1).ob
        { tmps := vals ++ Array.replicate (fn.ntmps - vals.size) undef, defers := [] } w := by
      refine ⟨⟨F, lentB Ls, (· = 0), ?_, fun t x hx => ?_, ⟨fun v hv => by omega, rfl, fun id L hL => ⟨L, by simp [hL], rfl, rfl, rfl, rfl, rfl⟩, fun _ h => h, fun _ h => .inl h⟩⟩, rfl, by simp; omega⟩
      · have : (St.mk (argEnv 0 args) (lentObs 0 lent) 1).ob = lentO lent := lentO_eq lent
        rw [this]; exact I0
      · have hx' : args[t]? = some x := by
          have := look_argEnv args 0 t
          simp only [St.look] at hx
          rw [this] at hx
          simpa using hx
        have ht : t < vals.size := by have := (List.getElem?_eq_some_iff.1 hx').1; have := R0.1; simp at this; omega
        refine ⟨vals[t], by rw [Array.getElem?_append_left ht]; simp [ht], R0.2 t x _ hx' (by simp [ht])⟩
    refine wp_mono (code_sound hm (cx := { P := P, call := evalCall P A n, lend := A.lend, rounds := n, ann := A.fn k }) rfl ih fb.body _ e st _ w hok h2 hstart) fun x a' w' hx => ?_
    obtain ⟨rfl, R, S⟩ := hx
    -- its results
    have fin : ∀ (hr : (bnd (resAll P st fb.results) fun v => bnd (pack st.ob 3 v []) fun (v, obs) => if obs.length ≤ 16 then some (CRes.mk v (obs.map (·.2)) (lentEnd st.ob 0 lent)) else none) = some r),
        a'.defers = [] ∧ ∃ v, (results fn a'.tmps).run P w' = .ok v w' ∧ ∃ val β' Z, Ending.returned v = .returned val ∧ Stp w.heap.size (lentM Ls) w w' ∧ (∀ b, F.p b → Z b) ∧ (∀ b, Z b → F.p b ∨ w.heap.size ≤ b) ∧ VRep ⟨Z, Z⟩ w'.heap β' (· = 0) r.val val ∧
          Inv w.heap.size (lentM Ls) ⟨Z, Z⟩ β' (· = 0) (resO r) w'.heap ∧ ∀ i L, 100000 ≤ i → β' i = some (0, L) → ∃ L0, lentB Ls i = some (0, L0) ∧ L0.same L := by
      intro hr
      obtain ⟨x, hx, hr⟩ := bnd_eq_some.1 hr
      obtain ⟨⟨x', acc⟩, hp, hr⟩ := bnd_eq_some.1 hr
      obtain ⟨h16, hr⟩ := ite_some.1 hr
      have hr := Option.some.inj hr
      subst hr
      obtain ⟨F', β, U, I, env, hg⟩ := R.ex
      rw [hres] at hx
      obtain ⟨v, hrun, rv⟩ := results_rep I rfl env hx
      obtain ⟨Ls', pinv, pk⟩ := pack_rep I 3 x v [] x' acc [] hp rv ⟨rfl, fun j p L' hj => by simp at hj⟩
      simp only [List.nil_append] at pinv pk
      let r : CRes := ⟨x', acc.map (·.2), lentEnd st.ob 0 lent⟩
      have hlow : ∀ j, j < 100000 → resO r j = (acc[j]?).map (fun p => (0, p.2)) := by
        intro j hj
        have : ¬ (100000 ≤ j) := by omega
        simp only [resO, this, if_false, r, List.getElem?_map, Option.map_map]
        rfl
      have hhigh : ∀ j y, 100000 ≤ j → resO r j = some y → ∃ ob, y = (0, ob) ∧ st.ob j = some (0, ob) ∧ flatOb ob = true := by
        intro j y hj hy
        simp only [resO, hj, if_true, r, get_lentEnd] at hy
        simp only [Option.map_eq_some_iff] at hy
        obtain ⟨ob, ho, rfl⟩ := hy
        split at ho
        · simp only [Option.join_some, Nat.zero_add] at ho
          rw [show 100000 + (j - 100000) = j by omega] at ho
          split at ho
          · rename_i ob' hat
            obtain ⟨hf, ho⟩ := ite_some.1 ho
            have ho := Option.some.inj ho
            subst ho
            exact ⟨ob', rfl, at_iff.1 hat, hf⟩
          · simp at ho
        · simp at ho
      let β' : Beta := fun j => if 100000 ≤ j then (if (resO r j).isSome then β j else none) else (Ls'[j]?).map (fun L => (0, L))
      have key : ∀ (j v : Nat) (L : Loc), β' j = some (v, L) → (j < 100000 ∧ v = 0 ∧ Ls'[j]? = some L) ∨ (100000 ≤ j ∧ v = 0 ∧ β j = some (0, L) ∧ ∃ ob, resO r j = some (0, ob) ∧ st.ob j = some (0, ob) ∧ flatOb ob = true) := by
        intro j v L hL
        simp only [β'] at hL
        split at hL
        · rename_i hj
          split at hL
          · rename_i hs
            obtain ⟨y, hy⟩ := Option.isSome_iff_exists.1 hs
            obtain ⟨ob, rfl, ho, hf⟩ := hhigh j y hj hy
            obtain ⟨ob', ho'⟩ := I.only j v L hL
            rw [ho] at ho'
            simp only [Option.some.injEq, Prod.mk.injEq] at ho'
            obtain ⟨rfl, _⟩ := ho'
            exact .inr ⟨hj, rfl, hL, ob, hy, ho, hf⟩
          · simp at hL
        · rename_i hj
          simp only [Option.map_eq_some_iff, Prod.mk.injEq] at hL
          obtain ⟨L2, h1, rfl, rfl⟩ := hL
          exact .inl ⟨by omega, rfl, h1⟩
      have hacc : ∀ (j : Nat) (L : Loc), Ls'[j]? = some L → ∃ p, acc[j]? = some p := by
        intro j L hL
        have hj : j < acc.length := by rw [← pinv.1]; exact (List.getElem?_eq_some_iff.1 hL).1
        exact ⟨acc[j], by simp [hj]⟩
      refine ⟨R.defers, v, hrun, v, β', F'.p, rfl, S, hg.p1, hg.p2, pk β' (fun j L L2 hj hL2 => ?_) (fun j L hj hL => ?_), ⟨?_, ?_, ?_, ?_, ?_, fun b hb => I.lt b (I.low b hb), I.le, fun b hb => hb⟩, ?_⟩
      · rcases key j 0 L2 hL2 with ⟨_, _, h⟩ | ⟨hge, _, _⟩
        · rw [hj] at h; exact (Option.some.inj h).symm
        · exfalso
          have := (List.getElem?_eq_some_iff.1 hj).1
          have := pinv.1
          omega
      · rcases key j 0 L hL with ⟨hlt, _, _⟩ | ⟨_, _, h, _⟩
        · omega
        · exact h
      · intro j v0 ob ho
        by_cases hj : 100000 ≤ j
        · obtain ⟨ob', he, ho', hf⟩ := hhigh j _ hj ho
          simp only [Prod.mk.injEq] at he
          obtain ⟨rfl, rfl⟩ := he
          obtain ⟨L, hL, hrep⟩ := I.objs j 0 ob ho'
          have hs : (resO r j).isSome = true := by
            have : resO r j = _ := ho
            rw [this]; rfl
          exact ⟨L, by simp only [β', if_pos hj, hs, if_true, hL], hrep.flat (fun b hb => ⟨hb, hb⟩) hf⟩
        · rw [hlow j (by omega)] at ho
          simp only [Option.map_eq_some_iff, Prod.mk.injEq] at ho
          obtain ⟨p, hp', rfl, rfl⟩ := ho
          have hj' : j < Ls'.length := by rw [pinv.1]; exact (List.getElem?_eq_some_iff.1 hp').1
          obtain ⟨_, _, hf, hrep, _⟩ := pinv.2 j p Ls'[j] hp' (by simp [hj'])
          exact ⟨Ls'[j], by simp only [β', if_neg hj, List.getElem?_eq_getElem hj', Option.map_some], hrep.flat (fun b hb => ⟨hb, hb⟩) hf⟩
      · intro j v0 L hL
        rcases key j v0 L hL with ⟨hj, rfl, h⟩ | ⟨hj, rfl, _, ob, ho, _⟩
        · obtain ⟨p, hp'⟩ := hacc j L h
          exact ⟨p.2, by rw [hlow j hj, hp']; rfl⟩
        · exact ⟨ob, ho⟩
      · intro j v0 L hL
        rcases key j v0 L hL with ⟨_, rfl, _⟩ | ⟨_, rfl, _⟩ <;> rfl
      · intro j v0 L j2 v2 L2 hL hL2 hne b hb hb2
        rcases key j v0 L hL with ⟨hj, rfl, h⟩ | ⟨hj, rfl, h, _⟩ <;> rcases key j2 v2 L2 hL2 with ⟨hj2, rfl, h2⟩ | ⟨hj2, rfl, h2, _⟩
        · obtain ⟨p, hp1⟩ := hacc j L h
          obtain ⟨p2, hp2⟩ := hacc j2 L2 h2
          obtain ⟨_, ⟨v1, K, hK, hfp⟩, _, _, hd⟩ := pinv.2 j p L hp1 h
          obtain ⟨_, ⟨v3, K2, hK2, hfp2⟩, _, _, _⟩ := pinv.2 j2 p2 L2 hp2 h2
          exact I.disj _ _ _ _ _ _ hK hK2 (fun e => hd j2 p2 (fun e => hne e.symm) hp2 e.symm) b (hfp b hb) (hfp2 b hb2)
        · obtain ⟨p, hp1⟩ := hacc j L h
          obtain ⟨hlt, ⟨v1, K, hK, hfp⟩, _, _, hd⟩ := pinv.2 j p L hp1 h
          exact I.disj _ _ _ _ _ _ hK h2 (by omega) b (hfp b hb) hb2
        · obtain ⟨p2, hp2⟩ := hacc j2 L2 h2
          obtain ⟨hlt, ⟨v3, K2, hK2, hfp2⟩, _, _, _⟩ := pinv.2 j2 p2 L2 hp2 h2
          exact I.disj _ _ _ _ _ _ h hK2 (by omega) b hb (hfp2 b hb2)
        · exact I.disj _ _ _ _ _ _ h h2 hne b hb hb2
      · intro j v0 L hL b hb
        rcases key j v0 L hL with ⟨hj, rfl, h⟩ | ⟨hj, rfl, h, _⟩
        · obtain ⟨p, hp1⟩ := hacc j L h
          obtain ⟨_, ⟨v1, K, hK, hfp⟩, _, _, _⟩ := pinv.2 j p L hp1 h
          obtain ⟨o1, o2, o3⟩ := I.out _ _ _ hK b (hfp b hb)
          exact ⟨fun h => o1 (I.low b h), o2, o3⟩
        · obtain ⟨o1, o2, o3⟩ := I.out _ _ _ h b hb
          exact ⟨fun h => o1 (I.low b h), o2, o3⟩
      · intro i L hi hL
        rcases key i 0 L hL with ⟨hj, _, _⟩ | ⟨_, _, h, _⟩
        · omega
        · obtain ⟨L0, h0, hs⟩ := hg.z i L h
          simp only [Option.map_eq_some_iff] at h0
          obtain ⟨⟨v0, L1⟩, h1, rfl⟩ := h0
          refine ⟨L1, ?_, hs⟩
          have : v0 = 0 := by
            simp only [lentB, hi, if_true, Option.map_eq_some_iff, Prod.mk.injEq] at h1
            obtain ⟨_, _, rfl, _⟩ := h1; rfl
          rw [h1, this]
    cases e with
    | exit id => simp [callRes] at h3
    | normal => exact fin h3
    | ret => exact fin h3
end Go.Proofs.YtnfhglplafmfiaaGreatE

namespace Go.Proofs.YtnfhglplafmfiaaGreatE
set_option linter.unusedSimpArgs false
set_option linter.unusedVariables false
open Go Go.Proofs

@[congr] theorem bnd_congr {α β : Type} {x x' : Option α} {f : α → Option β} (h : x = x') : bnd x f = bnd x' f := by rw [h]
@[simp] theorem bnd_some {α β : Type} (a : α) (f : α → Option β) : bnd (some a) f = f a := rfl
@[simp] theorem bnd_none {α β : Type} (f : α → Option β) : bnd none f = none := rfl
theorem bnd_ite {α β : Type} (c : Prop) [Decidable c] (x y : Option α) (f : α → Option β) : bnd (if c then x else y) f = if c then bnd x f else bnd y f := by split <;> rfl

/-! ## the evaluator's laws, for simp: text in a row is kept folded till its turn -/
def seqC (cx : Cx) (b : Code) (x : Option (Ex × St)) : Option (Ex × St) := bnd x (andThen (evalCode cx b))
def loopC (cx : Cx) (a : Code) (st : St) : Option (Ex × St) := iter (evalCode cx a) (restrict (lookL cx.ann.keep (firstId a))) cx.rounds st
def blockC (id : Nat) (x : Option (Ex × St)) : Option (Ex × St) := bnd x (inBlock id)
def condC (cx : Cx) (a b : Code) (st : St) (t : Bool) : Option (Ex × St) := if t = true then evalCode cx a st else evalCode cx b st
def regC (cx : Cx) (ops : Array Oper) (st : St) : Option (Ex × St) := bnd (bnd (evalOps cx ops 0 ops.toList st) (fin ops.size)) normal
def drawC (cx : Cx) (ops : Array Oper) (st : St) : Option (Ex × St) := bnd (bnd (bnd (evalDraw cx ops 0 ops.toList st []) (drawn ops)) (fin ops.size)) normal
def opsC (cx : Cx) (ops : Array Oper) (i : Nat) (os : List Oper) (x : Option St) : Option St := bnd x (evalOps cx ops i os)
@[simp] theorem ev_skip (cx : Cx) (st : St) : evalCode cx .skip st = some (.normal, st) := rfl
@[simp] theorem ev_ret (cx : Cx) (st : St) : evalCode cx .ret st = some (.ret, st) := rfl
@[simp] theorem ev_exit (cx : Cx) (id : Nat) (st : St) : evalCode cx (.exit id) st = some (.exit id, st) := rfl
@[simp] theorem ev_label (cx : Cx) (l : Nat) (st : St) : evalCode cx (.label l) st = some (.normal, st) := rfl
@[simp] theorem ev_seq (cx : Cx) (a b : Code) (st : St) : evalCode cx (.seq a b) st = seqC cx b (evalCode cx a st) := rfl
@[simp] theorem ev_block (cx : Cx) (id : Nat) (a : Code) (st : St) : evalCode cx (.block id a) st = blockC id (evalCode cx a st) := rfl
@[simp] theorem ev_loop (cx : Cx) (a : Code) (st : St) : evalCode cx (.loop a) st = loopC cx a st := rfl
@[simp] theorem ev_cond (cx : Cx) (c : Operand) (a b : Code) (st : St) : evalCode cx (.cond c a b) st = bnd (bnd (opnd st.look c) asBool) (condC cx a b st) := rfl
@[simp] theorem ev_region (cx : Cx) (id : Nat) (ops : Array Oper) (st : St) : evalCode cx (.region id ops false) st = regC cx ops st := by
  simp only [evalCode, regC, Bool.false_eq_true, if_false]
@[simp] theorem ev_regionD (cx : Cx) (id : Nat) (ops : Array Oper) (st : St) : evalCode cx (.region id ops true) st = drawC cx ops st := by
  simp only [evalCode, drawC, if_true]
@[simp] theorem condC_true (cx : Cx) (a b : Code) (st : St) : condC cx a b st true = evalCode cx a st := rfl
@[simp] theorem condC_false (cx : Cx) (a b : Code) (st : St) : condC cx a b st false = evalCode cx b st := rfl
@[simp] theorem seqC_none (cx : Cx) (b : Code) : seqC cx b none = none := rfl
@[simp] theorem seqC_normal (cx : Cx) (b : Code) (st : St) : seqC cx b (some (.normal, st)) = evalCode cx b st := rfl
@[simp] theorem seqC_ret (cx : Cx) (b : Code) (st : St) : seqC cx b (some (.ret, st)) = some (.ret, st) := rfl
@[simp] theorem seqC_exit (cx : Cx) (b : Code) (id : Nat) (st : St) : seqC cx b (some (.exit id, st)) = some (.exit id, st) := rfl
@[simp] theorem blockC_none (id : Nat) : blockC id none = none := rfl
@[simp] theorem blockC_normal (id : Nat) (st : St) : blockC id (some (.normal, st)) = some (.normal, st) := rfl
@[simp] theorem blockC_ret (id : Nat) (st : St) : blockC id (some (.ret, st)) = some (.ret, st) := rfl
@[simp] theorem blockC_exit (id j : Nat) (st : St) : blockC id (some (.exit j, st)) = if j = id then some (.normal, st) else some (.exit j, st) := rfl
@[simp] theorem regC_eq (cx : Cx) (l : List Oper) (st : St) : regC cx l.toArray st = bnd (bnd (opsC cx l.toArray 0 l (some st)) (fin l.length)) normal := rfl
@[simp] theorem opsC_nil (cx : Cx) (ops : Array Oper) (i : Nat) (st : St) : opsC cx ops i [] (some st) = some st := rfl
@[simp] theorem opsC_cons (cx : Cx) (ops : Array Oper) (i : Nat) (o : Oper) (os : List Oper) (st : St) : opsC cx ops i (o :: os) (some st) = opsC cx ops (i + 1) os (evalOne cx ops (st.g + i) o st) := rfl
@[simp] theorem opsC_none (cx : Cx) (ops : Array Oper) (i : Nat) (os : List Oper) : opsC cx ops i os none = none := rfl

def drwC (cx : Cx) (ops : Array Oper) (i : Nat) (os : List Oper) (x : Option (St × List Rs)) : Option (St × List Rs) := bnd x fun p => evalDraw cx ops i os p.1 p.2
def putC (o : Oper) (st : St) (acc : List Rs) (r : Option Rs) : Option (St × List Rs) := bnd r fun r => some (putRs st o r, acc ++ [r])
@[simp] theorem drawC_eq (cx : Cx) (l : List Oper) (st : St) : drawC cx l.toArray st = bnd (bnd (bnd (drwC cx l.toArray 0 l (some (st, []))) (drawn l.toArray)) (fin l.length)) normal := rfl
@[simp] theorem drwC_nil (cx : Cx) (ops : Array Oper) (i : Nat) (st : St) (acc : List Rs) : drwC cx ops i [] (some (st, acc)) = some (st, acc) := rfl
@[simp] theorem drwC_cons (cx : Cx) (ops : Array Oper) (i : Nat) (o : Oper) (os : List Oper) (st : St) (acc : List Rs) : drwC cx ops i (o :: os) (some (st, acc)) = drwC cx ops (i + 1) os (putC o st acc (evalRs cx ops (st.g + i) o st)) := by
  simp only [drwC, bnd_some, evalDraw, putC]
  cases evalRs cx ops (st.g + i) o st <;> rfl
@[simp] theorem drwC_none (cx : Cx) (ops : Array Oper) (i : Nat) (os : List Oper) : drwC cx ops i os none = none := rfl
@[simp] theorem putC_none (o : Oper) (st : St) (acc : List Rs) : putC o st acc none = none := rfl
@[simp] theorem putC_some (o : Oper) (st : St) (acc : List Rs) (r : Rs) : putC o st acc (some r) = some (putRs st o r, acc ++ [r]) := rfl

/-- What is said of an outcome. -/
def PostX (x : Option (Ex × St)) (G : Ex × St → Prop) : Prop := ∃ q, x = some q ∧ G q
@[simp] theorem PostX_some (q : Ex × St) (G : Ex × St → Prop) : PostX (some q) G ↔ G q := by simp [PostX]
@[simp] theorem PostX_none (G : Ex × St → Prop) : PostX none G ↔ False := by simp [PostX]
def stepG (H : St → Prop) (Q : Ex × St → Prop) : Ex × St → Prop
  | (.normal, s) => H s
  | q => Q q
@[simp] theorem stepG_normal (H : St → Prop) (Q : Ex × St → Prop) (s : St) : stepG H Q (.normal, s) ↔ H s := Iff.rfl
@[simp] theorem stepG_ret (H : St → Prop) (Q : Ex × St → Prop) (s : St) : stepG H Q (.ret, s) ↔ Q (.ret, s) := Iff.rfl
@[simp] theorem stepG_exit (H : St → Prop) (Q : Ex × St → Prop) (s : St) (j : Nat) : stepG H Q (.exit j, s) ↔ Q (.exit j, s) := Iff.rfl

def loopsIn : Code → List Code
  | .seq a b => loopsIn a ++ loopsIn b
  | .cond _ a b => loopsIn a ++ loopsIn b
  | .block _ a => loopsIn a
  | .loop a => a :: loopsIn a
  | _ => []
def bodyOf (fn : Func) : Code := fn.body.getD .skip

def lp (f : Func) (k : Nat) : Code := (loopsIn (bodyOf f)).getD k .skip

/-- A loop comes to an end: H holds at its head, after i rounds. -/
theorem iter_loop {f : St → Option (Ex × St)} {r : St → St} (N : Nat) (H : Nat → St → Prop) (Q : Ex × St → Prop)
    (step : ∀ i s, i < N → H i (r s) → ∃ q, f (r s) = some q ∧ ((∃ s', q = (.normal, s') ∧ H (i + 1) (r s')) ∨ (q.1 ≠ .normal ∧ Q q)))
    (last : ∀ s, H N (r s) → ∃ q, f (r s) = some q ∧ q.1 ≠ .normal ∧ Q q) :
    ∀ n s, N < n → H 0 (r s) → ∃ q, iter f r n s = some q ∧ Q q := by
  suffices h : ∀ k i n s, i + k = N → k < n → H i (r s) → ∃ q, iter f r n s = some q ∧ Q q from fun n s hn h0 => h N 0 n s (by omega) hn h0
  have stop : ∀ (q : Ex × St) (g : St → Option (Ex × St)), q.1 ≠ .normal → andThen g q = some q := by
    intro q g hq
    obtain ⟨e, s⟩ := q
    cases e <;> first | exact absurd rfl hq | rfl
  intro k
  induction k with
  | zero =>
    intro i n s hi hn h
    cases n with
    | zero => omega
    | succ n =>
      have e : i = N := by omega
      subst e
      obtain ⟨q, h1, h2, h3⟩ := last s h
      refine ⟨q, ?_, h3⟩
      simp only [iter, h1, bnd_some]
      exact stop q _ h2
  | succ k ih =>
    intro i n s hi hn h
    cases n with
    | zero => omega
    | succ n =>
      obtain ⟨q, h1, h2⟩ := step i s (by omega) h
      rcases h2 with ⟨s', e, h2⟩ | ⟨h2, h3⟩
      · subst e
        obtain ⟨q, h4, h5⟩ := ih (i + 1) n s' (by omega) (by omega) h2
        refine ⟨q, ?_, h5⟩
        simp only [iter, h1, bnd_some, andThen]
        exact h4
      · refine ⟨q, ?_, h3⟩
        simp only [iter, h1, bnd_some]
        exact stop q _ h2


/-- The same for the loop as the evaluator meets it: x is the loop's outcome. -/
theorem loop_end {cx : Cx} {a : Code} {st : St} {x : Option (Ex × St)} (hx : loopC cx a st = x) (N : Nat) (H : Nat → St → Prop) (Q : Ex × St → Prop)
    (hn : N < cx.rounds) (h0 : H 0 (restrict (lookL cx.ann.keep (firstId a)) st))
    (step : ∀ i s, i < N → H i s → PostX (evalCode cx a s) (stepG (fun s' => H (i + 1) (restrict (lookL cx.ann.keep (firstId a)) s')) Q))
    (last : ∀ s, H N s → PostX (evalCode cx a s) (stepG (fun _ => False) Q)) : ∃ q, x = some q ∧ Q q := by
  subst hx
  refine iter_loop N H Q ?_ ?_ cx.rounds st hn h0
  · intro i s hi h
    obtain ⟨⟨e, s'⟩, h1, h2⟩ := step i _ hi h
    cases e with
    | normal => exact ⟨_, h1, .inl ⟨s', rfl, h2⟩⟩
    | exit j => exact ⟨_, h1, .inr ⟨by simp, h2⟩⟩
    | ret => exact ⟨_, h1, .inr ⟨by simp, h2⟩⟩
  · intro s h
    obtain ⟨⟨e, s'⟩, h1, h2⟩ := last _ h
    cases e with
    | normal => exact h2.elim
    | exit j => exact ⟨_, h1, by simp, h2⟩
    | ret => exact ⟨_, h1, by simp, h2⟩

/-- A loop that checks something of each number under N, and leaves by 'return' where it fails. -/
theorem loop_chk {cx : Cx} {a : Code} {st : St} {x : Option (Ex × St)} (hx : loopC cx a st = x) (N : Nat) (id : Nat) (P : Nat → Prop) (hd : Nat → Nat → St) (E R : St → Prop)
    (hn : N < cx.rounds) (h0 : ∃ g, restrict (lookL cx.ann.keep (firstId a)) st = hd 0 g)
    (step : ∀ i g, i < N → (∀ j < i, P j) → PostX (evalCode cx a (hd i g)) (fun q => (P i ∧ ∃ s g', q = (.normal, s) ∧ restrict (lookL cx.ann.keep (firstId a)) s = hd (i + 1) g') ∨ (¬ P i ∧ ∃ s, q = (.ret, s) ∧ R s)))
    (last : ∀ g, PostX (evalCode cx a (hd N g)) (fun q => ∃ s, q = (.exit id, s) ∧ E s)) :
    ((∀ i < N, P i) ∧ ∃ s, x = some (.exit id, s) ∧ E s) ∨ ((∃ i < N, ¬ P i) ∧ ∃ s, x = some (.ret, s) ∧ R s) := by
  obtain ⟨q, rfl, hq⟩ := loop_end hx N (fun i s => (∀ j < i, P j) ∧ ∃ g, s = hd i g)
    (fun q => ((∀ i < N, P i) ∧ ∃ s, q = (.exit id, s) ∧ E s) ∨ ((∃ i < N, ¬ P i) ∧ ∃ s, q = (.ret, s) ∧ R s)) hn ⟨fun j hj => by omega, h0⟩
    (fun i s hi h => by
      obtain ⟨hp, g, rfl⟩ := h
      obtain ⟨q, h1, ⟨p, s, g', rfl, h2⟩ | ⟨p, s, rfl, h2⟩⟩ := step i g hi hp
      · exact ⟨_, h1, ⟨fun j hj => by
          rcases Nat.lt_or_ge j i with z | z
          · exact hp j z
          · obtain rfl : j = i := by omega
            exact p, g', h2⟩⟩
      · exact ⟨_, h1, .inr ⟨⟨i, hi, p⟩, s, rfl, h2⟩⟩)
    (fun s h => by
      obtain ⟨hp, g, rfl⟩ := h
      obtain ⟨q, h1, s, rfl, h2⟩ := last g
      exact ⟨_, h1, .inl ⟨hp, s, rfl, h2⟩⟩)
  rcases hq with ⟨h1, s, rfl, h2⟩ | ⟨h1, s, rfl, h2⟩
  · exact .inl ⟨h1, s, rfl, h2⟩
  · exact .inr ⟨h1, s, rfl, h2⟩
theorem bne_t {a b : Int} (h : a ≠ b) : (a != b) = true := by simpa using h
noncomputable def bl (p : Prop) : Bool := @decide p (Classical.propDecidable p)
theorem bl_true {p : Prop} (h : p) : bl p = true := by simp [bl, h]
theorem bl_false {p : Prop} (h : ¬ p) : bl p = false := by simp [bl, h]

theorem wrap_id {n : Int} (h : -9223372036854775808 ≤ n ∧ n < 9223372036854775808) : IntKind.wrap .i64 n = n := by
  unfold IntKind.wrap
  have e : IntKind.bits .i64 = 64 := rfl
  have e2 : IntKind.signed .i64 = true := rfl
  simp only [e, e2, Bool.true_and, decide_eq_true_eq]
  by_cases z : n % 2 ^ 64 ≥ 2 ^ (64 - 1)
  · rw [if_pos z]; omega
  · rw [if_neg z]; omega

/-! ## rows of whole numbers -/
def rn (l : List Int) (k : Nat) : Int := l.getD k 0
def icells (l : List Int) : List D := l.map (.int .i64)
abbrev ints (l : List Int) : D := .sl 1 (icells l)
def rown (t : List (List Int)) (k : Nat) : List Int := t.getD k []
def rowcells (t : List (List Int)) : List D := t.map ints
abbrev intss (t : List (List Int)) : D := .sl 1 (rowcells t)
@[simp] theorem icells_length (l : List Int) : (icells l).length = l.length := by simp [icells]
@[simp] theorem rowcells_length (l : List (List Int)) : (rowcells l).length = l.length := by simp [rowcells]
@[simp] theorem plain_icells (l : List Int) : (icells l).all plainD = true := by simp [icells, plainD]
@[simp] theorem icells_get (l : List Int) (k : Nat) : (icells l)[k]? = if k < l.length then some (.int .i64 (rn l k)) else none := by
  by_cases h : k < l.length
  · simp [icells, rn, h, List.getD]
  · simp [icells, h]
@[simp] theorem rowcells_get (l : List (List Int)) (k : Nat) : (rowcells l)[k]? = if k < l.length then some (ints (rown l k)) else none := by
  by_cases h : k < l.length
  · simp [rowcells, rown, h, List.getD]
  · simp [rowcells, h]
@[simp] theorem icells_getE (l : List Int) (k : Nat) (h : k < (icells l).length) : (icells l)[k] = .int .i64 (rn l k) := by
  have := icells_get l k
  rw [List.getElem?_eq_getElem h, if_pos (by simpa using h)] at this
  exact Option.some.inj this
@[simp] theorem rowcells_getE (l : List (List Int)) (k : Nat) (h : k < (rowcells l).length) : (rowcells l)[k] = ints (rown l k) := by
  have := rowcells_get l k
  rw [List.getElem?_eq_getElem h, if_pos (by simpa using h)] at this
  exact Option.some.inj this
@[simp] theorem icells_set (l : List Int) (k : Nat) (x : Int) : (icells l).set k (.int .i64 x) = icells (l.set k x) := by simp [icells, List.map_set]
@[simp] theorem icells_rep (n : Nat) (x : Int) : List.replicate n (D.int .i64 x) = icells (List.replicate n x) := by simp [icells]
@[simp] theorem icells_app (l r : List Int) : icells l ++ icells r = icells (l ++ r) := by simp [icells]
@[simp] theorem icells_app1 (l : List Int) (x : Int) : icells l ++ [.int .i64 x] = icells (l ++ [x]) := by simp [icells]
@[simp] theorem icells_drop (l : List Int) (k : Nat) : (icells l).drop k = icells (l.drop k) := by simp [icells]
@[simp] theorem icells_take (l : List Int) (k : Nat) : (icells l).take k = icells (l.take k) := by simp [icells]
@[simp] theorem icells_tail (l : List Int) : (icells l).tail = icells l.tail := by simp [icells]
@[simp] theorem plain_mem (l : List Int) : (∀ x, x ∈ icells l → plainD x = true) ↔ True := by
  have h := plain_icells l
  rw [List.all_eq_true] at h
  simpa using h
@[simp] theorem ret_mem (l : List Int) : (∀ x, x ∈ icells l → retD x = true) ↔ True := by
  simp only [icells, List.mem_map, iff_true]
  rintro x ⟨y, _, rfl⟩; rfl
@[simp] theorem row_mem (l : List Int) : (∀ x, x ∈ icells l → rowD x = true) ↔ True := by
  simp only [icells, List.mem_map, iff_true]
  rintro x ⟨y, _, rfl⟩; rfl
@[simp] theorem ret_icells (l : List Int) : (icells l).all retD = true := by
  rw [List.all_eq_true]; exact (ret_mem l).2 trivial
@[simp] theorem row_icells (l : List Int) : (icells l).all rowD = true := by
  rw [List.all_eq_true]; exact (row_mem l).2 trivial
@[simp] theorem rowcells_drop (l : List (List Int)) (k : Nat) : (rowcells l).drop k = rowcells (l.drop k) := by simp [rowcells]
@[simp] theorem rn_drop (l : List Int) (k j : Nat) : rn (l.drop k) j = rn l (k + j) := by simp [rn, List.getD]
@[simp] theorem rown_drop (l : List (List Int)) (k j : Nat) : rown (l.drop k) j = rown l (k + j) := by simp [rown, List.getD]
@[simp high] theorem cell1_icells (O : Nat → Option (Nat × Ob)) (l : List Int) : cell1 O (.d (.cellp (icells l))) = if 0 < l.length then some (.d (.int .i64 (rn l 0))) else none := by
  simp only [cell1, icells_get]
  by_cases h : 0 < l.length
  · rw [if_pos h, if_pos h]; rfl
  · rw [if_neg h, if_neg h]; rfl
@[simp high] theorem cell1_rowcells (O : Nat → Option (Nat × Ob)) (l : List (List Int)) : cell1 O (.d (.cellp (rowcells l))) = if 0 < l.length then some (.d (ints (rown l 0))) else none := by
  simp only [cell1, rowcells_get]
  by_cases h : 0 < l.length
  · rw [if_pos h, if_pos h]; rfl
  · rw [if_neg h, if_neg h]; rfl
def bcells (l : List Int) : List D := l.map (.int .u8)
@[simp] theorem bcells_length (l : List Int) : (bcells l).length = l.length := by simp [bcells]
@[simp] theorem bcells_drop (l : List Int) (k : Nat) : (bcells l).drop k = bcells (l.drop k) := by simp [bcells]
@[simp] theorem bcells_get (l : List Int) (k : Nat) : (bcells l)[k]? = if k < l.length then some (.int .u8 (rn l k)) else none := by
  by_cases h : k < l.length
  · simp [bcells, rn, h, List.getD]
  · simp [bcells, h]
@[simp] theorem ret_bmem (l : List Int) : (∀ x, x ∈ bcells l → retD x = true) ↔ True := by
  simp only [bcells, List.mem_map, iff_true]
  rintro x ⟨y, _, rfl⟩; rfl
@[simp] theorem ret_bcells (l : List Int) : (bcells l).all retD = true := by
  rw [List.all_eq_true]; exact (ret_bmem l).2 trivial
@[simp] theorem bcells_getE (l : List Int) (k : Nat) (h : k < (bcells l).length) : (bcells l)[k] = .int .u8 (rn l k) := by
  have := bcells_get l k
  rw [List.getElem?_eq_getElem h, if_pos (by simpa using h)] at this
  simpa using this
@[simp high] theorem cell1_bcells (O : Nat → Option (Nat × Ob)) (l : List Int) : cell1 O (.d (.cellp (bcells l))) = if 0 < l.length then some (.d (.int .u8 (rn l 0))) else none := by
  simp only [cell1, bcells_get]
  split <;> rfl
def mcells (t : List (List Int)) : List (List D) := t.map icells
@[simp] theorem mcells_length (t : List (List Int)) : (mcells t).length = t.length := by simp [mcells]
@[simp] theorem mcells_set (t : List (List Int)) (k : Nat) (r : List Int) : (mcells t).set k (icells r) = mcells (t.set k r) := by simp [mcells, List.map_set]
@[simp] theorem mcells_rep (n : Nat) : List.replicate n ([] : List D) = mcells (List.replicate n []) := by simp [mcells, icells]
@[simp] theorem mcells_app1 (t : List (List Int)) (r : List Int) : mcells t ++ [icells r] = mcells (t ++ [r]) := by simp [mcells]
@[simp] theorem mcells_map (t : List (List Int)) : (mcells t).map (D.sl 1) = rowcells t := by simp [mcells, rowcells, Function.comp_def]
@[simp] theorem mcells_get (t : List (List Int)) (k : Nat) : (mcells t)[k]? = if k < t.length then some (icells (rown t k)) else none := by
  by_cases h : k < t.length
  · simp [mcells, rown, h, List.getD]
  · simp [mcells, h]
@[simp] theorem ret_mcells (t : List (List Int)) : ((mcells t).all fun r => r.all retD) = true := by
  rw [List.all_eq_true]
  intro r hr
  simp only [mcells, List.mem_map] at hr
  obtain ⟨l, _, rfl⟩ := hr
  exact ret_icells l
@[simp] theorem ret_mmem (t : List (List Int)) : (∀ r, r ∈ mcells t → ∀ x, x ∈ r → retD x = true) ↔ True := by
  simp only [mcells, List.mem_map, iff_true]
  rintro r ⟨l, _, rfl⟩ x hx
  exact (ret_mem l).2 trivial x hx
@[simp] theorem mcells_getE (t : List (List Int)) (k : Nat) (h : k < (mcells t).length) : (mcells t)[k] = icells (rown t k) := by
  have := mcells_get t k
  rw [List.getElem?_eq_getElem h, if_pos (by simpa using h)] at this
  exact Option.some.inj this
def B : Nat := 18446744073709551616
theorem B_eq : B = 18446744073709551616 := rfl
@[simp] theorem lenA_ints (O : Nat → Option (Nat × Ob)) (l : List Int) : lenA O (.d (ints l)) = some l.length := by simp [lenA, ints]
@[simp] theorem lenA_intss (O : Nat → Option (Nat × Ob)) (l : List (List Int)) : lenA O (.d (intss l)) = some l.length := by simp [lenA, intss]

@[simp] theorem ofD_int (k : IntKind) (n : Int) : ofD (.int k n) = .d (.int k n) := rfl
@[simp] theorem ofD_bool (b : Bool) : ofD (.bool b) = .d (.bool b) := rfl
@[simp] theorem ofD_str (s : ByteArray) : ofD (.str s) = .d (.str s) := rfl
@[simp] theorem ofD_nil : ofD .nil = .d .nil := rfl
@[simp] theorem ofD_sl (n : Nat) (c : List D) : ofD (.sl n c) = .d (.sl n c) := rfl
@[simp] theorem ofD_cellp (c : List D) : ofD (.cellp c) = .d (.cellp c) := rfl
@[simp] theorem ofD_agg (c : List D) : ofD (.agg c) = .agg (c.map .d) := rfl
@[simp] theorem ofD_clo (f : FuncId) (a b : List D) : ofD (.clo f a b) = .d (.clo f a b) := rfl
@[simp] theorem ofD_undef : ofD .undef = .undef := rfl
@[simp] theorem obsL_nil (t : Nat) : obsL [] t = none := rfl
@[simp] theorem obsL_cons (u t : Nat) (x : Option (Nat × Ob)) (r : Obs) : obsL ((u, x) :: r) t = if u = t then x else obsL r t := by
  simp only [obsL, lookL]
  split <;> rfl
attribute [simp] Nat.sub_pos_iff_lt
attribute [simp] firstId evalOne guardOk evalOp opnd St.look lookL asD asInt asBool binD unD arith putDst normal fin ofValue scalar St.ob at_ cell1 cellsN lenA lenC evalBuiltin grown evalCallOp mapO view elemsA optI
attribute [simp] cellsOk cellsOf solid setFrom rowsOf tableRow fillA
@[simp] theorem without_eq (O : Nat → Option (Nat × Ob)) (ids : List Nat) (id : Nat) : without O ids id = if id ∈ ids then none else O id := rfl
attribute [simp] lendIds lendArgs lendCells cellIds lendOb lentBack
attribute [simp] guardVal zer1
attribute [simp] evalRs putRs touch reach reachO drawn confOk confAll confWith confl keys ancB Region.binds
attribute [simp] place
@[simp] theorem setFrom_icells (l : List Int) (k : Nat) (r : List Int) : setFrom (icells l) k (icells r) = icells (setFrom l k r) := by
  induction r generalizing l k with
  | nil => rfl
  | cons x r ih =>
    simp only [icells, List.map_cons, setFrom] at ih ⊢
    have := ih (l.set k x) (k + 1)
    rw [List.map_set] at this
    exact this
attribute [simp] frzV unpin
@[simp] theorem wk_pin (c : List D) : wk (.pin c) = .sl 1 c := rfl
@[simp] theorem wk_int (k : IntKind) (n : Int) : wk (.int k n) = .int k n := rfl
@[simp] theorem wk_bool (b : Bool) : wk (.bool b) = .bool b := rfl
@[simp] theorem wk_str (b : ByteArray) : wk (.str b) = .str b := rfl
@[simp] theorem wk_nil : wk .nil = .nil := rfl
@[simp] theorem wk_sl (n : Nat) (c : List D) : wk (.sl n c) = .sl n (c.map wk1) := rfl
@[simp] theorem wk1_icells (l : List Int) : (icells l).map wk1 = icells l := by
  simp [icells, wk1, Function.comp_def]
@[simp] theorem wk1_pin (c : List D) : wk1 (.pin c) = .sl 1 c := rfl
@[simp] theorem wk1_nil : wk1 .nil = .nil := rfl
attribute [simp] callRes resAll resVal pack pack.go lentEnd argEnv lentObs keepEnv keepObs restrict refsOk ren newObs flatOb
@[simp] theorem plainD_int (k : IntKind) (n : Int) : plainD (.int k n) = true := rfl
@[simp] theorem plainD_bool (b : Bool) : plainD (.bool b) = true := rfl
@[simp] theorem plainD_str (s : ByteArray) : plainD (.str s) = true := rfl
@[simp] theorem plainD_nil : plainD .nil = true := rfl
@[simp] theorem retD_int (k : IntKind) (n : Int) : retD (.int k n) = true := rfl
@[simp] theorem retD_bool (b : Bool) : retD (.bool b) = true := rfl
@[simp] theorem retD_str (s : ByteArray) : retD (.str s) = true := rfl
@[simp] theorem retD_nil : retD .nil = true := rfl
@[simp] theorem retD_pin (c : List D) : retD (.pin c) = true := rfl
@[simp] theorem retD_sl (n : Nat) (c : List D) : retD (.sl n c) = false := rfl
@[simp] theorem rowD_int (k : IntKind) (n : Int) : rowD (.int k n) = true := rfl
@[simp] theorem rowD_bool (b : Bool) : rowD (.bool b) = true := rfl
@[simp] theorem rowD_str (s : ByteArray) : rowD (.str s) = true := rfl
@[simp] theorem rowD_nil : rowD .nil = true := rfl
@[simp] theorem rowD_pin (c : List D) : rowD (.pin c) = true := rfl
@[simp] theorem rowD_sl (n : Nat) (c : List D) : rowD (.sl n c) = true := rfl
@[simp] theorem nilD_nil : nilD .nil = some true := rfl
@[simp] theorem nilD_pin (c : List D) : nilD (.pin c) = if 0 < c.length then some false else none := rfl
@[simp] theorem nilD_sl (n : Nat) (c : List D) : nilD (.sl n c) = if n = 1 ∧ 0 < c.length then some false else none := rfl
end Go.Proofs.YtnfhglplafmfiaaGreatE
