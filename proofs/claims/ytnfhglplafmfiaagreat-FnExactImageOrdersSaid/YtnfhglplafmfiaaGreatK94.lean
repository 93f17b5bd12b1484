/- Contracts of functions of the program and of the reference: what the evaluator gives for a call of each. -/
import Derived.Test.YtnfhglplafmfiaaGreatAEf
import Derived.Test.YtnfhglplafmfiaaGreatK1M
import Derived.Test.YtnfhglplafmfiaaGreatK4
import Derived.Test.YtnfhglplafmfiaaGreatK24M
import Derived.Test.YtnfhglplafmfiaaGreatK64
import Derived.Test.YtnfhglplafmfiaaGreatK90M
import Derived.Test.YtnfhglplafmfiaaGreatK91
import Derived.Test.YtnfhglplafmfiaaGreatK92
import Derived.Test.YtnfhglplafmfiaaGreatK93
namespace Go.Proofs.YtnfhglplafmfiaaGreatE
open Go Go.Proofs
set_option maxHeartbeats 16000000
set_option maxRecDepth 8000
set_option linter.unusedSimpArgs false
set_option linter.unusedVariables false
set_option pp.deepTerms false
set_option pp.deepTerms.threshold 10
/-! ## put -/
/-- What holds at the head of put's loop, and how much is left to do. -/
structure PutI (M : Int) (N : Nat) (S0 : (Nat → Int) → Prop) (R T : List (List Int)) (k : Nat) : Prop where
  sat : Sat M N R T
  spn : ∀ u, Sp M (GA R T 0) u ↔ S0 u
  fin : dec M N R T ≤ k
  kb : k ≤ 4000000000
def PutH (M : Int) (N : Nat) (S0 : (Nat → Int) → Prop) (k : Nat) (s : St) : Prop :=
  ∃ g v R T, PutI M N S0 R T k ∧ s = ⟨[(0, .ptr 100000 0 0), (4, .own 208 v)], [(208, some (v, .row (rowcells T))), (100000, some (0, spn M R))], g⟩
theorem vec_bd {M : Int} {N : Nat} {v : List Int} (hM : 1 ≤ M ∧ M ≤ 12) (h : Vec M N v) (i : Nat) : 0 ≤ rn v i ∧ rn v i ≤ 200 := by
  have := h.2 i; omega
theorem wts_one (N : Nat) (v : List Int) : wts N [v] = N + 1 - ld v := by simp -implicitDefEqProofs (maxSteps := 3000000) [wts]
theorem wt_le {N k : Nat} {v : List Int} (hl : v.length = N) (h : Zb v k) (hk : k ≤ N) : N + 1 - ld v ≤ N + 1 - k := by
  have := ld_zb v k h (by omega); omega
theorem wt_ge {N j : Nat} {v : List Int} (h : rn v j ≠ 0) (hj : j < N) : N - j + 1 ≤ N + 1 - ld v := by
  have := ld_nz v j h; omega
/-- The numbers that a mix goes with. -/
theorem dOf_ok {M a b : Int} (hM : 1 ≤ M) (ha : 0 ≤ a ∧ a < M) (hb : 0 < b ∧ b < M) : 0 < dOf a b M ∧ dOf a b M < M ∧ dOf a b M ∣ a ∧ dOf a b M ∣ b ∧ dOf a b M ∣ M := by
  have d1 : dOf a b M ∣ gcdI a b := gcdI_dvd_left M (gcdI_nonneg a b)
  have d2 : dOf a b M ∣ M := gcdI_dvd_right _ (by omega)
  have d3 : gcdI a b ∣ a := gcdI_dvd_left b ha.1
  have d4 : gcdI a b ∣ b := gcdI_dvd_right a (by omega)
  have h0 : 0 ≤ dOf a b M := gcdI_nonneg _ _
  have h1 := Int.dvd_trans d1 d4
  have h2 := Int.le_of_dvd hb.1 h1
  have h3 : dOf a b M ≠ 0 := fun e => by rw [e] at h1; have := Int.zero_dvd.1 h1; omega
  exact ⟨by omega, by omega, Int.dvd_trans d1 d3, h1, d2⟩
theorem neg_quo {a d : Int} (ha : 0 ≤ a) (hd : d ∣ a) : (-a).tdiv d = -(a / d) := by
  rw [Int.neg_tdiv, Int.tdiv_eq_ediv_of_nonneg ha]
theorem ediv_bd {a d : Int} (ha : 0 ≤ a ∧ a ≤ 200) (hd : 0 < d) : 0 ≤ a / d ∧ a / d ≤ 200 := by
  have h1 := Int.ediv_nonneg ha.1 (Int.le_of_lt hd)
  have h2 := Int.ediv_le_self d ha.1
  omega
@[simp] theorem rowcells_takeK (t : List (List Int)) (k : Nat) : (rowcells t).take k = rowcells (t.take k) := by simp -implicitDefEqProofs (maxSteps := 3000000) [rowcells]
theorem rowcells_one (r : List Int) : [ints r] = rowcells [r] := rfl
theorem rowcells_add (t x : List (List Int)) : rowcells t ++ rowcells x = rowcells (t ++ x) := by simp -implicitDefEqProofs (maxSteps := 3000000) [rowcells]
theorem rown_last (T : List (List Int)) (v : List Int) : rown (T ++ [v]) T.length = v := by simp -implicitDefEqProofs (maxSteps := 3000000) [rown, List.getD]
theorem row_rmem (T : List (List Int)) : (∀ x, x ∈ rowcells T → rowD x = true) ↔ True := by
  simp only [rowcells, List.mem_map, iff_true]
  rintro x ⟨r, _, rfl⟩; rfl
theorem rn_zeros (n j : Nat) : rn (List.replicate n 0) j = 0 := by
  rcases Nat.lt_or_ge j n with z | z
  · simp -implicitDefEqProofs (maxSteps := 3000000) [rn, List.getD, z]
  · simp -implicitDefEqProofs (maxSteps := 3000000) [rn, List.getD, z]
theorem wts_len {M : Int} {N : Nat} : ∀ {T : List (List Int)}, (∀ v ∈ T, Vec M N v) → T.length ≤ wts N T
  | [], _ => by simp -implicitDefEqProofs (maxSteps := 3000000)
  | v :: T, h => by
    have h1 := wts_len (M := M) (N := N) (T := T) (fun w hw => h w (by simp -implicitDefEqProofs (maxSteps := 3000000) [hw]))
    have h2 := ld_le v
    have h3 := (h v (by simp -implicitDefEqProofs (maxSteps := 3000000))).1
    have e : wts N (v :: T) = (N + 1 - ld v) + wts N T := by simp -implicitDefEqProofs (maxSteps := 3000000) [wts]
    rw [e, List.length_cons]; omega
theorem stp_nil {M : Int} {R : List (List Int)} {j : Nat} (h : rown R j = []) : stpD M R j = M := by simp -implicitDefEqProofs (maxSteps := 3000000) [stpD, h]
theorem stp_row {M : Int} {R : List (List Int)} {j : Nat} (h : rown R j ≠ []) : stpD M R j = rn (rown R j) j := by simp -implicitDefEqProofs (maxSteps := 3000000) [stpD, h]
/-- A row is mixed in: what is left to do is less. -/
theorem dec_mix {M : Int} {N : Nat} {R T : List (List Int)} {v next a b c : List Int} {j : Nat} (hM : 0 < M) (S : Rws M N R) (hj : j < N) (hnx : rn next j < stpD M R j) (hnn : next ≠ []) (h0 : 0 < rn next j)
    (hv : v.length = N) (ha : a.length = N ∧ Zb a (j + 1)) (hb : b.length = N ∧ Zb b (j + 1)) (hc : c.length = N ∧ Zb c (j + 1)) (hvj : rn v j ≠ 0) :
    dec M N (R.set j next) (T ++ [a, b, c]) < dec M N R (T ++ [v]) := by
  have hjl : j < R.length := by rw [S.len]; exact hj
  have e : rown (R.set j next) j = next := by rw [rown_setD hjl]; simp -implicitDefEqProofs (maxSteps := 3000000)
  have h1 := stpsD_set (m := M) hjl next (by
    rw [stp_row (by rw [e]; exact hnn), e]; omega)
  have w1 := wt_le ha.1 ha.2 (by omega)
  have w2 := wt_le hb.1 hb.2 (by omega)
  have w3 := wt_le hc.1 hc.2 (by omega)
  have w4 := wt_ge hvj hj
  have e1 : wts N [a, b, c] = (N + 1 - ld a) + (N + 1 - ld b) + (N + 1 - ld c) := by simp -implicitDefEqProofs (maxSteps := 3000000) [wts]; omega
  unfold dec
  rw [wts_app, wts_app, e1, wts_one]
  have h2 : (3 * N + 4) * (stpsD M (R.set j next) + 1) ≤ (3 * N + 4) * stpsD M R := Nat.mul_le_mul_left _ h1
  rw [Nat.mul_add] at h2
  omega
theorem ct_put (n : Nat) (hn : B + 1 + 8 ≤ n) (M : Int) (hM : 2 ≤ M ∧ M ≤ 12) (N : Nat) (hN : N ≤ 10000) (R : List (List Int)) (S : Sat M N R []) (V : List Int) (hV : Vec M N V) :
    ∃ R', Sat M N R' [] ∧ (∀ u, Sp M (GR R' 0) u ↔ Sp M (GA R [V] 0) u) ∧
      evalCall Tryz.prog An n 163 [.ptr 100000 0 0, .d (ints V)] [spn M R] = some ⟨.tuple [], [], [some (spn M R')]⟩ := by
  obtain ⟨m, rfl⟩ : ∃ m, n = m + 1 := ⟨n - 1, by omega⟩
  have hB := B_eq
  simp only [evalCall_at, fb163, bnd_some, bodyOf, Tryz.f163, Option.getD_some]
  generalize hb0 : Code.loop _ = cc0
  obtain rfl : cc0 = .loop (lp Tryz.f163 0) := by rw [← hb0]; rfl
  clear hb0
  simp -implicitDefEqProofs (maxSteps := 3000000)
  generalize hx : loopC _ _ _ = z
  generalize hl : lp Tryz.f163 0 = L at hx
  simp only [lp, bodyOf, Tryz.f163, Option.getD_some, loopsIn, List.append_nil, List.nil_append, List.cons_append, List.getD, List.getElem?_cons_zero, List.getElem?_cons_succ] at hl
  subst hl
  have S1 : Sat M N R ([] ++ [V]) := ⟨S.rws, fun w hw => by
    obtain rfl : w = V := by simpa using hw
    exact hV, fun j hj => (S.sat j hj).mono fun g hg => .inl (GA_nil.1 hg)⟩
  have hdb : dec M N R [V] ≤ 4000000000 := by
    have h1 := stpsD_le (show 0 < M by omega) S.rws
    have h2 : N * M.toNat ≤ 10000 * 12 := Nat.mul_le_mul hN (by omega)
    have h3 : (3 * N + 4) * stpsD M R ≤ 30004 * 120000 := Nat.mul_le_mul (by omega) (by omega)
    unfold dec
    rw [wts_one]
    omega
  obtain ⟨qq, rfl, s, R', hqq⟩ := loop_dec hx (PutH M N (Sp M (GA R [V] 0))) (fun qq => ∃ s R', qq = (.exit 0, s) ∧ (Sat M N R' [] ∧ (∀ u, Sp M (GR R' 0) u ↔ Sp M (GA R [V] 0) u)) ∧ obsL s.obs 100000 = some (0, spn M R')) (dec M N R [V])
    (by show dec M N R [V] < m; omega) ⟨_, _, R, [V], ⟨S1, fun u => Iff.rfl, Nat.le_refl _, hdb⟩, by simp -implicitDefEqProofs (maxSteps := 3000000) [rowcells]; exact ⟨rfl, rfl⟩⟩
    (by
      rintro k s ⟨g, v, R, T, P, rfl⟩
      have hS0 := P.spn
      rcases List.eq_nil_or_concat T with rfl | ⟨T, w, rfl⟩
      · simp -implicitDefEqProofs (maxSteps := 3000000) [rowcells]
        refine ⟨R, ⟨P.sat, fun u => ?_⟩, rfl⟩
        rw [← hS0]
        exact ⟨fun h => h.mono fun g hg => GA_nil.2 hg, fun h => h.mono fun g hg => GA_nil.1 hg⟩
      · rw [List.concat_eq_append] at *
        have Sw := P.sat
        have hw := Sw.vec w (by simp -implicitDefEqProofs (maxSteps := 3000000))
        have hwl := hw.1
        have hwb := vec_bd (by omega) hw
        have hRl := Sw.rws.len
        have hdk := P.fin
        have hkb := P.kb
        have hTw := wts_len (fun v hv => Sw.vec v hv)
        have hTl : T.length + 1 ≤ 4000000000 := by
          have : (T ++ [w]).length = T.length + 1 := by simp -implicitDefEqProofs (maxSteps := 3000000)
          unfold dec at hdk
          omega
        have hb1 : T.length + 1 ≤ bound := by simp -implicitDefEqProofs (maxSteps := 3000000) [bound]; omega
        have hb3 : T.length + 3 ≤ bound := by simp -implicitDefEqProofs (maxSteps := 3000000) [bound]; omega
        have w1 := wrap_id (n := (T.length : Int)) (by omega)
        have p0 : (0 : Int) < (T.length : Int) + 1 := by omega
        have hlast := rown_last T w
        have hF : ∀ m', B + 1 ≤ m' → ∀ i < w.length, evalCall Tryz.prog An m' 220 (.d (.int .i64 (rn w i)) :: ([] : List YtnfhglplafmfiaaGreatE.D).map ofD) [] = some ⟨.d (.bool (decide (rn w i ≠ 0))), [], []⟩ := fun m' hm' i hi => by
          have := ct_put1 m' hm' (rn w i)
          simpa using this
        rcases ct_IndexFunc m (by omega) w (by omega) 220 [] (fun z => z ≠ 0) (B + 1) (by omega) hF (by simp -implicitDefEqProofs (maxSteps := 3000000)) with ⟨h1, c1⟩ | ⟨j, hj, h1, h2, c1⟩
        · -- nothing is left of it
          have hz : ∀ i, rn w i = 0 := fun i => by
            rcases Nat.lt_or_ge i w.length with z | z
            · exact Classical.byContradiction fun h => h1 i z h
            · exact rn_ge z
          obtain ⟨q1, q2⟩ := put_zero Sw hz
          have hlt : dec M N R T < dec M N R (T ++ [w]) := by
            have := ld_le w
            unfold dec
            rw [wts_app, wts_one]; omega
          simp -implicitDefEqProofs (maxSteps := 3000000) [p0, w1, hlast, c1]
          exact ⟨dec M N R T, by omega, _, _, R, T, ⟨q1, fun u => (q2 u).trans (hS0 u), Nat.le_refl _, by omega⟩, rfl⟩
        · have hjN : j < N := by omega
          have hjR : j < R.length := by omega
          have hzb : Zb w j := fun i hi => Classical.byContradiction fun h => h2 i hi h
          have hwj := hw.2 j
          have hwj0 : ¬ ((j : Int) < 0) := by omega
          by_cases hne : rown R j = []
          · -- no row stands there
            have hol : (List.replicate w.length (0 : Int)).length = N := by rw [List.length_replicate, hwl]
            have holz : Zb (List.replicate w.length (0 : Int)) j := fun i _ => rn_zeros _ _
            have holdb : ∀ i, 0 ≤ rn (List.replicate w.length (0 : Int)) i ∧ rn (List.replicate w.length (0 : Int)) i ≤ 200 := fun i => by rw [rn_zeros]; omega
            have A0E : rn (List.replicate w.length (0 : Int)) j = 0 := rn_zeros _ _
            have hold : (rown R j ≠ [] ∧ List.replicate w.length (0 : Int) = rown R j) ∨ (rown R j = [] ∧ ∀ i, rn (List.replicate w.length (0 : Int)) i = 0) := .inr ⟨hne, fun i => rn_zeros _ _⟩
            have ha0 : (0 : Int) ≤ 0 ∧ (0 : Int) ≤ 200 := by omega
            obtain ⟨g1, g2, g3, g4, g5⟩ := dOf_ok (M := M) (a := 0) (b := rn w j) (by omega) (by omega) (by omega)
            obtain ⟨x, y, hx0, hy0, hdv, cb⟩ := ct_bezout m (by omega) M (by omega) (.sl 1 (pcells R)) 0 (rn w j) ha0 (hwb j) (by omega)
            have hstp : dOf 0 (rn w j) M < stpD M R j := by rw [stp_nil hne]; exact g2
            generalize dOf 0 (rn w j) M = d at *
            rw [← A0E] at hdv
            rw [show (0 : Int) = rn (List.replicate w.length (0 : Int)) j from A0E.symm] at g3
            have hx200 : -200 ≤ x ∧ x ≤ 200 := by omega
            have hy200 : -200 ≤ y ∧ y ≤ 200 := by omega
            have c2 := ct_combined m (by omega) M (by omega) (.sl 1 (pcells R)) x y hx200 hy200 false false (List.replicate w.length (0 : Int)) w (by omega) (by omega) holdb hwb
            have nl := cmb_len M x (List.replicate w.length (0 : Int)) y w
            have nv : Vec M N (cmb M x (List.replicate w.length (0 : Int)) y w) := cmb_vec (by omega) hol
            have nb := vec_bd (by omega) nv
            have nj : rn (cmb M x (List.replicate w.length (0 : Int)) y w) j = d := cmb_at (by omega) hdv (by omega) g2
            have nz : Zb (cmb M x (List.replicate w.length (0 : Int)) y w) j := cmb_zb holz hzb
            have nne := vec_ne nv hjN
            have hset := pcells_set (R := R) (k := j) nne
            obtain ⟨q1, q2⟩ := put_mix (by omega) hjN Sw hzb h1 hol holz hold g3 g4 g5 g1 g2 hdv
            have hdm := fun a b c ha hb hc => dec_mix (M := M) (T := T) (v := w) (next := cmb M x (List.replicate w.length (0 : Int)) y w) (a := a) (b := b) (c := c) (by omega) Sw.rws hjN (by rw [nj]; exact hstp) nne (by omega) hwl ha hb hc h1
            have z1 : rn (cmb M 1 (List.replicate w.length (0 : Int)) (-(rn (List.replicate w.length (0 : Int)) j / d)) (cmb M x (List.replicate w.length (0 : Int)) y w)) j = 0 := by
              refine cmb_at (by omega) ?_ (by omega) (by omega)
              rw [nj,  show 1 * rn (List.replicate w.length (0 : Int)) j + -(rn (List.replicate w.length (0 : Int)) j / d) * d - 0 = rn (List.replicate w.length (0 : Int)) j - rn (List.replicate w.length (0 : Int)) j / d * d by grind, Int.ediv_mul_cancel g3]; simp -implicitDefEqProofs (maxSteps := 3000000)
            have z2 : rn (cmb M 1 w (-(rn w j / d)) (cmb M x (List.replicate w.length (0 : Int)) y w)) j = 0 := by
              refine cmb_at (by omega) ?_ (by omega) (by omega)
              rw [nj, show 1 * rn w j + -(rn w j / d) * d - 0 = rn w j - rn w j / d * d by grind, Int.ediv_mul_cancel g4]; simp -implicitDefEqProofs (maxSteps := 3000000)
            have z3 : rn (cmb M (M / d) (cmb M x (List.replicate w.length (0 : Int)) y w) 0 (cmb M x (List.replicate w.length (0 : Int)) y w)) j = 0 := by
              refine cmb_at (by omega) ?_ (by omega) (by omega)
              rw [nj, show M / d * d + 0 * d - 0 = M / d * d by grind, Int.ediv_mul_cancel g5]; exact Int.dvd_refl M
            have hlt := hdm _ _ _ ⟨by rw [cmb_len, hol], (cmb_zb holz nz).succ z1⟩ ⟨by rw [cmb_len, hwl], (cmb_zb hzb nz).succ z2⟩ ⟨by rw [cmb_len, nl, hol], (cmb_zb nz nz).succ z3⟩
            clear hdm z1 z2 z3
            generalize cmb M x (List.replicate w.length (0 : Int)) y w = next at *
            have qa := ediv_bd (a := rn (List.replicate w.length (0 : Int)) j) (d := d) (by rw [A0E]; omega) g1
            have qb := ediv_bd (a := rn w j) (d := d) (hwb j) g1
            have qc := ediv_bd (a := M) (d := d) (by omega) g1
            have c3 := ct_combined m (by omega) M (by omega) (.sl 1 (pcells (R.set j next))) 1 (-(rn (List.replicate w.length (0 : Int)) j / d)) (by omega) (by omega) false true (List.replicate w.length (0 : Int)) next (by omega) (by omega) holdb nb
            have c4 := ct_combined m (by omega) M (by omega) (.sl 1 (pcells (R.set j next))) 1 (-(rn w j / d)) (by omega) (by omega) false true w next (by omega) (by omega) hwb nb
            have c5 := ct_combined m (by omega) M (by omega) (.sl 1 (pcells (R.set j next))) (M / d) 0 (by omega) (by omega) true true next next (by omega) (by omega) nb nb
            simp only [srow_t, srow_f] at c2 c3 c4 c5
            have t1 := neg_quo (a := rn (List.replicate w.length (0 : Int)) j) (d := d) (by rw [A0E]; omega) g3
            have t2 := neg_quo (a := rn w j) (d := d) (hwb j).1 g4
            have t3 : M.tdiv d = M / d := Int.tdiv_eq_ediv_of_nonneg (by omega)
            have v1 := wrap_id (n := -rn (List.replicate w.length (0 : Int)) j) (by omega)
            have v2 := wrap_id (n := -rn w j) (by have := hwb j; omega)
            have v3 := wrap_id (n := -(rn (List.replicate w.length (0 : Int)) j / d)) (by omega)
            have v4 := wrap_id (n := -(rn w j / d)) (by omega)
            have v5 := wrap_id (n := M / d) (by omega)
            have hd0 : ¬ d = 0 := by omega
            have hwl2 : (w.length : Int) ≤ 1099511627776 := by omega
            simp only [A0E, Int.neg_zero, Int.zero_ediv] at *
            simp -implicitDefEqProofs (maxSteps := 3000000) [p0, w1, hlast, c1, hwj0, hjR, hj, hne, hwl2, rn_zeros, cb, c2, hset, c3, c4, c5, t1, t2, t3, v1, v2, v3, v4, v5, hd0, hb1, hb3, pcD]
            exact ⟨_, Nat.lt_of_lt_of_le hlt hdk, _, _, R.set j next, _, ⟨q1, fun u => (q2 u).trans (hS0 u), Nat.le_refl _, by omega⟩, by simp -implicitDefEqProofs (maxSteps := 3000000) [rowcells]; exact ⟨rfl, rfl⟩⟩
          · obtain ⟨hP, hPz, hPp, hPd⟩ := Sw.rws.row j hne
            have hol := hP.1
            have holz := hPz
            have holdb := vec_bd (by omega) hP
            have hp := pinD_ne hne
            have hjP : j < (rown R j).length := by omega
            have hlp : 0 < (rown R j).length := by omega
            have ha0 := holdb j
            have han : ¬ rn (rown R j) j = 0 := by omega
            have hPj := hP.2 j
            by_cases hdiv : rn (rown R j) j ∣ rn w j
            · have e0 : (rn w j).tmod (rn (rown R j) j) = 0 := Int.tmod_eq_zero_of_dvd hdiv
              have t2 := neg_quo (a := rn w j) (d := rn (rown R j) j) (hwb j).1 hdiv
              have qb := ediv_bd (a := rn w j) (d := rn (rown R j) j) (hwb j) hPp
              have v2 := wrap_id (n := -rn w j) (by have := hwb j; omega)
              have v4 := wrap_id (n := -(rn w j / rn (rown R j) j)) (by omega)
              have c2 := ct_combined m (by omega) M (by omega) (.sl 1 (pcells R)) 1 (-(rn w j / rn (rown R j) j)) (by omega) (by omega) false true w (rown R j) (by omega) (by omega) hwb holdb
              simp only [srow_t, srow_f] at c2
              have z1 : rn (cmb M 1 w (-(rn w j / rn (rown R j) j)) (rown R j)) j = 0 := by
                refine cmb_at (by omega) ?_ (by omega) (by omega)
                rw [show 1 * rn w j + -(rn w j / rn (rown R j) j) * rn (rown R j) j - 0 = rn w j - rn w j / rn (rown R j) j * rn (rown R j) j by grind, Int.ediv_mul_cancel hdiv]; simp -implicitDefEqProofs (maxSteps := 3000000)
              have hzb2 := (cmb_zb (m := M) (x := 1) (y := -(rn w j / rn (rown R j) j)) hzb hPz).succ z1
              have hv2 : Vec M N (cmb M 1 w (-(rn w j / rn (rown R j) j)) (rown R j)) := cmb_vec (by omega) hwl
              have cd := cmb_dvd (m := M) (x := 1) (y := -(rn w j / rn (rown R j) j)) hwl hol
              obtain ⟨q1, q2⟩ := put_red Sw hne hzb h1 hv2 hzb2 (c := -(rn w j / rn (rown R j) j)) (fun i => by have := cd i; rwa [Int.one_mul] at this)
              have hlt : dec M N R (T ++ [cmb M 1 w (-(rn w j / rn (rown R j) j)) (rown R j)]) < dec M N R (T ++ [w]) := by
                have u1 := wt_le hv2.1 hzb2 (by omega)
                have u2 := wt_ge h1 hjN
                unfold dec
                rw [wts_app, wts_app, wts_one, wts_one]; omega
              generalize cmb M 1 w (-(rn w j / rn (rown R j) j)) (rown R j) = v' at *
              simp -implicitDefEqProofs (maxSteps := 3000000) [p0, w1, hlast, c1, hwj0, hjR, hj, hp, hjP, hlp, han, e0, c2, t2, v2, v4, hb1, hb3, pcD]
              exact ⟨_, Nat.lt_of_lt_of_le hlt hdk, _, _, R, _, ⟨q1, fun u => (q2 u).trans (hS0 u), Nat.le_refl _, by omega⟩, by simp -implicitDefEqProofs (maxSteps := 3000000) [rowcells]; exact ⟨rfl, rfl⟩⟩
            · have hold : (rown R j ≠ [] ∧ rown R j = rown R j) ∨ (rown R j = [] ∧ ∀ i, rn (rown R j) i = 0) := .inl ⟨hne, rfl⟩
              have e0 : ¬ (rn w j).tmod (rn (rown R j) j) = 0 := fun z => hdiv (Int.dvd_of_tmod_eq_zero z)
              have e0b : ((rn w j).tmod (rn (rown R j) j) == 0) = false := by simpa using e0
              obtain ⟨g1, g2, g3, g4, g5⟩ := dOf_ok (M := M) (a := rn (rown R j) j) (b := rn w j) (by omega) (by omega) (by omega)
              obtain ⟨x, y, hx0, hy0, hdv, cb⟩ := ct_bezout m (by omega) M (by omega) (.sl 1 (pcells R)) (rn (rown R j) j) (rn w j) ha0 (hwb j) (by omega)
              have hstp : dOf (rn (rown R j) j) (rn w j) M < stpD M R j := by
                rw [stp_row hne]
                have h5 := Int.le_of_dvd hPp g3
                have h6 : dOf (rn (rown R j) j) (rn w j) M ≠ rn (rown R j) j := fun e => hdiv (by rw [← e]; exact g4)
                omega
              generalize dOf (rn (rown R j) j) (rn w j) M = d at *
              have hx200 : -200 ≤ x ∧ x ≤ 200 := by omega
              have hy200 : -200 ≤ y ∧ y ≤ 200 := by omega
              have c2 := ct_combined m (by omega) M (by omega) (.sl 1 (pcells R)) x y hx200 hy200 true false (rown R j) w (by omega) (by omega) holdb hwb
              have nl := cmb_len M x (rown R j) y w
              have nv : Vec M N (cmb M x (rown R j) y w) := cmb_vec (by omega) hol
              have nb := vec_bd (by omega) nv
              have nj : rn (cmb M x (rown R j) y w) j = d := cmb_at (by omega) hdv (by omega) g2
              have nz : Zb (cmb M x (rown R j) y w) j := cmb_zb holz hzb
              have nne := vec_ne nv hjN
              have hset := pcells_set (R := R) (k := j) nne
              obtain ⟨q1, q2⟩ := put_mix (by omega) hjN Sw hzb h1 hol holz hold g3 g4 g5 g1 g2 hdv
              have hdm := fun a b c ha hb hc => dec_mix (M := M) (T := T) (v := w) (next := cmb M x (rown R j) y w) (a := a) (b := b) (c := c) (by omega) Sw.rws hjN (by rw [nj]; exact hstp) nne (by omega) hwl ha hb hc h1
              have z1 : rn (cmb M 1 (rown R j) (-(rn (rown R j) j / d)) (cmb M x (rown R j) y w)) j = 0 := by
                refine cmb_at (by omega) ?_ (by omega) (by omega)
                rw [nj, show 1 * rn (rown R j) j + -(rn (rown R j) j / d) * d - 0 = rn (rown R j) j - rn (rown R j) j / d * d by grind, Int.ediv_mul_cancel g3]; simp -implicitDefEqProofs (maxSteps := 3000000)
              have z2 : rn (cmb M 1 w (-(rn w j / d)) (cmb M x (rown R j) y w)) j = 0 := by
                refine cmb_at (by omega) ?_ (by omega) (by omega)
                rw [nj, show 1 * rn w j + -(rn w j / d) * d - 0 = rn w j - rn w j / d * d by grind, Int.ediv_mul_cancel g4]; simp -implicitDefEqProofs (maxSteps := 3000000)
              have z3 : rn (cmb M (M / d) (cmb M x (rown R j) y w) 0 (cmb M x (rown R j) y w)) j = 0 := by
                refine cmb_at (by omega) ?_ (by omega) (by omega)
                rw [nj, show M / d * d + 0 * d - 0 = M / d * d by grind, Int.ediv_mul_cancel g5]; exact Int.dvd_refl M
              have hlt := hdm _ _ _ ⟨by rw [cmb_len, hol], (cmb_zb holz nz).succ z1⟩ ⟨by rw [cmb_len, hwl], (cmb_zb hzb nz).succ z2⟩ ⟨by rw [cmb_len, nl, hol], (cmb_zb nz nz).succ z3⟩
              clear hdm z1 z2 z3
              generalize cmb M x (rown R j) y w = next at *
              have qa := ediv_bd (a := rn (rown R j) j) (d := d) ha0 g1
              have qb := ediv_bd (a := rn w j) (d := d) (hwb j) g1
              have qc := ediv_bd (a := M) (d := d) (by omega) g1
              have c3 := ct_combined m (by omega) M (by omega) (.sl 1 (pcells (R.set j next))) 1 (-(rn (rown R j) j / d)) (by omega) (by omega) true true (rown R j) next (by omega) (by omega) holdb nb
              have c4 := ct_combined m (by omega) M (by omega) (.sl 1 (pcells (R.set j next))) 1 (-(rn w j / d)) (by omega) (by omega) false true w next (by omega) (by omega) hwb nb
              have c5 := ct_combined m (by omega) M (by omega) (.sl 1 (pcells (R.set j next))) (M / d) 0 (by omega) (by omega) true true next next (by omega) (by omega) nb nb
              simp only [srow_t, srow_f] at c2 c3 c4 c5
              have t1 := neg_quo (a := rn (rown R j) j) (d := d) ha0.1 g3
              have t2 := neg_quo (a := rn w j) (d := d) (hwb j).1 g4
              have t3 : M.tdiv d = M / d := Int.tdiv_eq_ediv_of_nonneg (by omega)
              have v1 := wrap_id (n := -rn (rown R j) j) (by omega)
              have v2 := wrap_id (n := -rn w j) (by have := hwb j; omega)
              have v3 := wrap_id (n := -(rn (rown R j) j / d)) (by omega)
              have v4 := wrap_id (n := -(rn w j / d)) (by omega)
              have v5 := wrap_id (n := M / d) (by omega)
              have hd0 : ¬ d = 0 := by omega
              simp -implicitDefEqProofs (maxSteps := 3000000) [p0, w1, hlast, c1, hwj0, hjR, hj, hp, hjP, hlp, han, e0b, cb, c2, hset, c3, c4, c5, t1, t2, t3, v1, v2, v3, v4, v5, hd0, hb1, hb3, pcD]
              exact ⟨_, Nat.lt_of_lt_of_le hlt hdk, _, _, R.set j next, _, ⟨q1, fun u => (q2 u).trans (hS0 u), Nat.le_refl _, by omega⟩, by simp -implicitDefEqProofs (maxSteps := 3000000) [rowcells]; exact ⟨rfl, rfl⟩⟩)
  obtain ⟨rfl, ⟨h1, h2⟩, h3⟩ := hqq
  refine ⟨R', h1, h2, ?_⟩
  simp -implicitDefEqProofs (maxSteps := 3000000) [h3]
end Go.Proofs.YtnfhglplafmfiaaGreatE
