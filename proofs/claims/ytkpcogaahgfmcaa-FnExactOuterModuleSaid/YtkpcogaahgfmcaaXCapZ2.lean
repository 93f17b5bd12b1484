/- Own words beside the printed ones: a captured variable, read as a row of one element. -/
import Derived.Test.YtkpcogaahgfmcaaWWordsZ2
import Derived.Test.YtkpcogaahgfmcaaWMoreZ2
import Derived.Test.YtkpcogaahgfmcaaWLastZ2
import Derived.Test.YtkpcogaahgfmcaaWKeptZ2
import Derived.Lib.SliceRun
namespace Go.Proofs.YtkpcogaahgfmcaaX
open Go.RowKit Go.Proofs.YtkpcogaahgfmcaaW.PrintWords Go.Proofs.YtkpcogaahgfmcaaW.PrintLast

theorem cap_one {α : Type} {d : Kd α} {w : World} {g T : Nat} {cs : Array Value} {x : α} (hb : w.heap[g]? = some (.cells cs T (0, 0))) (hK : d.K w x cs.toList) : d.C w (some ⟨g, 0, none⟩) [x].length [x] := by
  refine ⟨rfl, by simp, fun _ => ⟨⟨g, 0, none⟩, rfl, fun j p hp => ?_⟩⟩
  cases j with
  | succ j => simp at hp
  | zero =>
    obtain rfl : x = p := by simpa using hp
    refine ⟨cs.toList, d.K_len hK, hK, fun i u hu => ?_⟩
    have h := blk_cell hb i
    rw [Nat.zero_mul, Nat.zero_add, add_plain, h]
    simpa using hu

/-- A call through a function value, in a region that draws its order. -/
theorem goesF_ {P : Program} {ops : Array Oper} {Q : Exit → Act → World → Prop} {oi : Oper} {N : Option Tmp} {a : Act} {w : World} {K : Act → World → Prop} {f : FuncId} {fn : Func} {x : Operand} {as : Array Operand} {ts : Array TypeId} (hf : P.funcs[f]? = some fn) (hname : (fn.name == "runtime.NumGoroutine") = false) (hb : fn.body.isSome = true) (lb args : Array Value)
    (hw : Region.wanted oi (yielded ops a.tmps) = true) (hN : oi.dst = N) (hop : oi.op = .call { callee := .value x, args := as, argTypes := ts }) (hx : a.eval x = .func (.func f) #[] lb) (hargs : as.map a.eval ++ lb = args)
    (h : Calls P f args w fun e w' => ∃ v, e = .returned v ∧ K (a.put N v) w') : if Region.wanted oi (yielded ops a.tmps) = true then Oper.wp P oi a w K Q else K (a.put N undef) w := by
  refine call_ f args hw hN ?_ h
  have he := enters_ hf hname hb args w
  unfold execOp
  simp [hop, resolve, hx, Deferred.ofValue, invoke, hargs, he]

/-- A call through a function value, in a plain region. -/
theorem goesLF_ {P : Program} {ops : Array Oper} {Q : Exit → Act → World → Prop} {rest : List Oper} {oi : Oper} {a : Act} {w : World} (N : Option Tmp) (hd : oi.dst = N) (hg : oi.guard = none) {f : FuncId} {fn : Func} {x : Operand} {as : Array Operand} {ts : Array TypeId} (hf : P.funcs[f]? = some fn) (hname : (fn.name == "runtime.NumGoroutine") = false) (hb : fn.body.isSome = true) (lb args : Array Value)
    (hop : oi.op = .call { callee := .value x, args := as, argTypes := ts }) (hx : a.eval x = .func (.func f) #[] lb) (hargs : as.map a.eval ++ lb = args)
    (h : Calls P f args w fun e w' => ∃ v, e = .returned v ∧ wpList P ops Q rest (a.put N v) w') : wpList P ops Q (oi :: rest) a w := by
  refine wpList_plain hg fun K hK => ?_
  have he := enters_ hf hname hb args w
  have hrun : (execOp a.eval oi).run P w = .ok (.enter f args) w := by
    unfold execOp
    simp [hop, resolve, hx, Deferred.ofValue, invoke, hargs, he]
  unfold Oper.wp
  rw [hrun, Oper.upon_enter]
  refine h.mono fun e w'' hh => ?_
  obtain ⟨v, rfl, hk⟩ := hh
  subst hd
  exact hK _ _ hk

/-- Zeros put one behind the other. -/
theorem put_zeros {e base g n cap : Nat} {ok : Nat → Prop} : ∀ (m : Nat) (W : World) (xs : List Int) (i : Nat), (Kd.int .i64).R e W base ok (.slice (some ⟨g, 0, none⟩) n cap) xs → i + m = n →
    (Kd.int .i64).R e (W.setCells g i (List.replicate m (.int .i64 0))) base ok (.slice (some ⟨g, 0, none⟩) n cap) (xs.take i ++ List.replicate m 0) ∧ W.grownBy (W.setCells g i (List.replicate m (.int .i64 0))) (some g)
  | 0, W, xs, i, h, hi => by
    have hn := (Kd.R_reads' h).1
    simp only [List.replicate_zero, List.append_nil, World.setCells]
    rw [List.take_of_length_le (by omega)]
    exact ⟨h, World.grownBy.refl _ _⟩
  | m + 1, W, xs, i, h, hi => by
    have hn := (Kd.R_reads' h).1
    obtain ⟨h1, g1⟩ := Kd.R_putg (x := (0 : Int)) h (i : Int)
    rw [Int.toNat_natCast] at h1 g1
    obtain ⟨h2, g2⟩ := put_zeros m _ (xs.set i 0) (i + 1) h1 (by omega)
    have e1 : (xs.set i 0).take (i + 1) ++ List.replicate m 0 = xs.take i ++ List.replicate (m + 1) 0 := by
      rw [List.replicate_succ, List.take_set, List.set_eq_take_append_cons_drop, if_pos (by simp; omega)]
      simp [List.take_take]
    rw [e1] at h2
    simp only [List.replicate_succ, World.setCells] at h2 g2 ⊢
    exact ⟨h2, g1.trans g2⟩

/-- 'clear(xs[i:])' of a row of the call's own. -/
theorem R_clear {P : Program} {ops : Array Oper} {rest : List Oper} {o : Oper} {a : Act} {Q : Exit → Act → World → Prop} {w0 W : World} (base : Nat) (hgd : o.guard = none) (hN : o.dst = none) (x : Operand) (t e : TypeId)
    (ho : o.op = .call { callee := .builtin .clear, args := #[x], argTypes := #[t] }) (ht : P.underlying t = some (.slice e)) (hz : ∀ w, (zeroValue e).run P w = .ok (.int .i64 0) w)
    {n c m c2 i : Nat} {A A' : Option Addr} {xs : List Int} {ok : Nat → Prop} (hx : a.eval x = .slice A' m c2) (hA : A' = if c = i then A else A.map (·.add (i * 1))) (hm : m = n - i)
    (HO : (Kd.int .i64).R e W base ok (.slice A n c) xs) (hi : i ≤ n) (HB : Below base w0 W) (hbase : base ≤ W.heap.size)
    (h : ∀ w1, (Kd.int .i64).R e w1 base ok (.slice A n c) (xs.take i ++ List.replicate (n - i) 0) → Below base w0 w1 → W.grownBy w1 (Value.slice A n c).ownBlock → wpList P ops Q rest a w1) : wpList P ops Q (o :: rest) a W := by
  obtain ⟨hn, hnc, _⟩ := Kd.R_reads' HO
  by_cases he : i = n
  · subst he
    obtain rfl : m = 0 := by omega
    have hr : (Builtin.clear_ #[t] o.type #[.slice A' 0 c2]).run P W = .ok (.tuple #[]) W := by
      cases A' <;> simp [Builtin.clear_, run_underlying ht]
    have h1 := h W (by rw [Nat.sub_self, List.take_of_length_le (by omega)]; simpa using HO) HB (World.grownBy.refl _ _)
    refine wpList_plain hgd fun K hK => ?_
    unfold Oper.wp execOp
    simp only [ho, resolve, invoke, builtin, Sem.run_bind, Sem.run_pure, Result.andThen_ok, List.map_toArray, List.map_cons, List.map_nil, hx, hr]
    show K (a.put o.dst _) W
    rw [hN]
    exact hK _ _ h1
  · obtain ⟨g, cap, ev, _⟩ := Kd.R_form HO (by omega)
    injection ev with ea _ ec
    subst ea; subst ec
    rw [if_neg (by omega)] at hA
    have hA2 : A' = some ⟨g, i, none⟩ := by rw [hA, Nat.mul_one]; show some (Addr.add _ i) = _; rw [add_plain]
    subst hA2
    obtain ⟨hR, hg⟩ := put_zeros (n - i) W xs i HO (by omega)
    obtain ⟨_, inner, hown, hrd⟩ := id HO
    have hcell : ∀ j, j < n → (W.cell? ⟨g, j, none⟩).isSome = true ∧ W.frozen? ⟨g, j, none⟩ = false := by
      intro j hj
      obtain ⟨ad, ea, hc⟩ := Kd.at_int (Kd.R_reads' HO).2.2 (j : Int) (by omega) (by omega)
      injection ea with ea
      subst ea
      rw [Int.toNat_natCast, add_plain] at hc
      refine ⟨by rw [hc]; rfl, ?_⟩
      rcases hown.2 with ⟨hv, _⟩ | ⟨g', cap', cur, hv, hb, hh, _⟩
      · cases hv
      · injection hv with ha _ _
        injection ha with ha
        injection ha with hg'
        subst hg'
        simp [World.frozen?, hh]
    have hr : (Builtin.clear_ #[t] o.type #[.slice (some ⟨g, i, none⟩) m c2]).run P W = .ok (.tuple #[]) (W.setCells g i (List.replicate (n - i) (.int .i64 0))) := by
      rw [hm]
      exact Lib.run_clear_slice W t e o.type _ ht hz rfl rfl g i (n - i) c2 (by omega) (fun j hj => (hcell (i + j) (by omega)).1) (fun j hj => (hcell (i + j) (by omega)).2)
    have h1 := h _ hR (HB.grown hg hbase (fun k hk => by injection hk with hk; subst hk; exact Kd.R_base HO _ (by simp [Value.ownBlock]))) hg
    refine wpList_plain hgd fun K hK => ?_
    unfold Oper.wp execOp
    simp only [ho, resolve, invoke, builtin, Sem.run_bind, Sem.run_pure, Result.andThen_ok, List.map_toArray, List.map_cons, List.map_nil, hx, hr]
    show K (a.put o.dst _) _
    rw [hN]
    exact hK _ _ h1
/-- A flat row, beside a row of rows that was written: none of its blocks is the flat row's. -/
theorem R_kept_off {α : Type} {d : Kd α} {e base : Nat} {ok P : Nat → Prop} {W W2 : World} {v : Value} {xs : List α} (hE : d.E = []) (h : d.R e W base ok v xs) (hk : Kept W W2 P) (hne : ∀ k, P k → some k ≠ v.ownBlock) :
    d.R e W2 base (fun k => ok k ∧ (¬ P k ∧ k < W.heap.size)) v xs :=
  Kd.R_mono (Kd.R_keptB (Kd.R_tight2 hE h) hk (fun k h2 hp => hne k hp h2.1)) (fun _ h2 => ⟨h2.1.2, h2.2⟩)
/-- A variable of another type is no block of a row's. -/
theorem S_not_blk {E : List Nat} {W : World} {g T : Nat} {cs : Array Value} {fr : Nat × Nat} (hp : ∃ q, q ∈ E ∧ ∃ cells, W.heap[g]? = some (.cells cells q (0, 0))) (hb : W.heap[g]? = some (.cells cs T fr)) (ht : ∀ q, q ∈ E → q ≠ T) : False := by
  obtain ⟨q, hq, cells, hc⟩ := hp
  rw [hb] at hc
  injection hc with hc
  injection hc with _ ht2
  exact ht q hq ht2.symm
end Go.Proofs.YtkpcogaahgfmcaaX
