/- Contracts of functions of the program and of the reference: what the evaluator gives for a call of each. -/
import Derived.Test.YtnfhglplafmfiaaGreatAEf
import Derived.Test.YtnfhglplafmfiaaGreatK1M
import Derived.Test.YtnfhglplafmfiaaGreatK4
import Derived.Test.YtnfhglplafmfiaaGreatK31
import Derived.Test.YtnfhglplafmfiaaGreatK64
import Derived.Test.YtnfhglplafmfiaaGreatK90M
import Derived.Test.YtnfhglplafmfiaaGreatK91
import Derived.Test.YtnfhglplafmfiaaGreatK92
import Derived.Test.YtnfhglplafmfiaaGreatK93
import Derived.Test.YtnfhglplafmfiaaGreatK94
import Derived.Test.YtnfhglplafmfiaaGreatK95
namespace Go.Proofs.YtnfhglplafmfiaaGreatE
open Go Go.Proofs
set_option maxHeartbeats 16000000
set_option maxRecDepth 8000
set_option linter.unusedSimpArgs false
set_option linter.unusedVariables false
set_option pp.deepTerms false
set_option pp.deepTerms.threshold 10
/-! ## the reference's insertion -/
structure InsI (M : Int) (N : Nat) (S0 : (Nat → Int) → Prop) (R T : List (List Int)) (v : List Int) (j k : Nat) : Prop where
  sat : Sat M N R (T ++ [v])
  spn : ∀ u, Sp M (GA R (T ++ [v]) 0) u ↔ S0 u
  zb : Zb v j
  fin : dec M N R (T ++ [v]) ≤ k
  kb : k ≤ 4000000000
def InsH (M : Int) (N : Nat) (S0 : (Nat → Int) → Prop) (k : Nat) (s : St) : Prop :=
  ∃ g v R T, PutI M N S0 R T k ∧ s = ⟨[(0, .own 100000 0), (2, .d (.int .i64 M)), (6, .own 256 v)], [(256, some (v, .row (rowcells T))), (100000, some (0, .row (pcells R)))], g⟩
def InsJ (M : Int) (N : Nat) (S0 : (Nat → Int) → Prop) (k : Nat) (q : Nat) (s : St) : Prop :=
  ∃ g ver R T v j, InsI M N S0 R T v j k ∧ q = N - j ∧ j ≤ N ∧ s = ⟨[(0, .own 100000 0), (2, .d (.int .i64 M)), (6, .own 256 ver), (7, .d (ints v)), (8, .d (.int .i64 (j : Int)))], [(256, some (ver, .row (rowcells T))), (100000, some (0, .row (pcells R)))], g⟩
theorem dec_app_le (M : Int) (N : Nat) (R T X : List (List Int)) : dec M N R T ≤ dec M N R (T ++ X) := by
  unfold dec; rw [wts_app]; omega
theorem dec_pop {M : Int} {N : Nat} {R T : List (List Int)} {v : List Int} (hv : v.length = N) : dec M N R T < dec M N R (T ++ [v]) := by
  have := ld_le v
  unfold dec; rw [wts_app, wts_one]; omega
theorem dec_mixU {M : Int} {N : Nat} {R T : List (List Int)} {v next a : List Int} {j : Nat} (hM : 0 < M) (S : Rws M N R) (hj : j < N) (hnx : rn next j < stpD M R j) (hnn : next ≠ []) (h0 : 0 < rn next j)
    (hv : v.length = N) (ha : a.length = N ∧ Zb a (j + 1)) (hvj : rn v j ≠ 0) : dec M N (R.set j next) (T ++ [a]) < dec M N R (T ++ [v]) := by
  have h := dec_mix (T := T) hM S hj hnx hnn h0 hv ha ha ha hvj
  have h2 := dec_app_le M N (R.set j next) (T ++ [a]) [a, a]
  rw [List.append_assoc] at h2
  exact Nat.lt_of_le_of_lt h2 h
theorem dec_mixB {M : Int} {N : Nat} {R T : List (List Int)} {v next a b : List Int} {j : Nat} (hM : 0 < M) (S : Rws M N R) (hj : j < N) (hnx : rn next j < stpD M R j) (hnn : next ≠ []) (h0 : 0 < rn next j)
    (hv : v.length = N) (ha : a.length = N ∧ Zb a (j + 1)) (hb : b.length = N ∧ Zb b (j + 1)) (hvj : rn v j ≠ 0) : dec M N (R.set j next) (T ++ [a, b]) < dec M N R (T ++ [v]) := by
  have h := dec_mix (T := T) hM S hj hnx hnn h0 hv ha hb hb hvj
  have h2 := dec_app_le M N (R.set j next) (T ++ [a, b]) [b]
  rw [List.append_assoc] at h2
  exact Nat.lt_of_le_of_lt h2 h
theorem wrap_sm {x : Int} (h : -1000 ≤ x ∧ x ≤ 1000) : IntKind.wrap .i64 x = x := wrap_id (by omega)
theorem ct_l04Insert (n : Nat) (hn : B + 20 ≤ n) (M : Int) (hM : 2 ≤ M ∧ M ≤ 12) (N : Nat) (hN : N ≤ 10000) (R : List (List Int)) (S : Sat M N R []) (V : List Int) (hV : Vec M N V) :
    ∃ R', Sat M N R' [] ∧ (∀ u, Sp M (GR R' 0) u ↔ Sp M (GA R [V] 0) u) ∧
      evalCall Tryz.prog An n 157 [.own 100000 0, .d (ints V), .d (.int .i64 M)] [.row (pcells R)] = some ⟨.tuple [], [], [some (.row (pcells R'))]⟩ := by
  obtain ⟨m, rfl⟩ : ∃ m, n = m + 1 := ⟨n - 1, by omega⟩
  have hB := B_eq
  simp only [evalCall_at, fb157, bnd_some, bodyOf, Tryz.f157, Option.getD_some]
  generalize hb0 : Code.loop _ = cc0
  obtain rfl : cc0 = .loop (lp Tryz.f157 0) := by rw [← hb0]; rfl
  clear hb0
  simp -implicitDefEqProofs (maxSteps := 3000000)
  generalize hx : loopC _ _ _ = z
  generalize hl : lp Tryz.f157 0 = L at hx
  simp only [lp, bodyOf, Tryz.f157, Option.getD_some, loopsIn, List.append_nil, List.nil_append, List.cons_append, List.getD, List.getElem?_cons_zero, List.getElem?_cons_succ] at hl
  subst hl
  generalize hb1 : Code.loop _ = cc1 at hx
  obtain rfl : cc1 = .loop (lp Tryz.f157 1) := by rw [← hb1]; rfl
  clear hb1
  obtain ⟨R0, hR0⟩ : ∃ R0, R0 = R := ⟨R, rfl⟩
  have S1 : Sat M N R ([] ++ [V]) := ⟨S.rws, fun w hw => by
    obtain rfl : w = V := by simpa using hw
    exact hV, fun j hj => (S.sat j hj).mono fun g hg => .inl (GA_nil.1 hg)⟩
  have hdb : dec M N R [V] ≤ 4000000000 := by
    have h1 := stpsD_le (show 0 < M by omega) S.rws
    have h2 : N * M.toNat ≤ 10000 * 12 := Nat.mul_le_mul hN (by omega)
    have h3 : (3 * N + 4) * stpsD M R ≤ 30004 * 120000 := Nat.mul_le_mul (by omega) (by omega)
    unfold dec
    rw [wts_one]
    omega
  obtain ⟨qq, rfl, s, R', hqq⟩ := loop_dec hx (InsH M N (Sp M (GA R [V] 0))) (fun qq => ∃ s R', qq = (.exit 0, s) ∧ (Sat M N R' [] ∧ (∀ u, Sp M (GR R' 0) u ↔ Sp M (GA R [V] 0) u)) ∧ obsL s.obs 100000 = some (0, .row (pcells R'))) (dec M N R [V])
    (by show dec M N R [V] < m; omega) ⟨_, _, R, [V], ⟨S1, fun u => Iff.rfl, Nat.le_refl _, hdb⟩, by simp -implicitDefEqProofs (maxSteps := 3000000) [rowcells]; exact ⟨rfl, rfl⟩⟩
    (by
      rw [← hR0]
      rintro k s ⟨g, v, R, T, P, rfl⟩
      have hS0 := P.spn
      rcases List.eq_nil_or_concat T with rfl | ⟨T, w, rfl⟩
      · simp -implicitDefEqProofs (maxSteps := 3000000) [rowcells]
        refine ⟨R, ⟨P.sat, fun u => ?_⟩, rfl⟩
        rw [← hS0]
        exact ⟨fun h => h.mono fun g hg => GA_nil.2 hg, fun h => h.mono fun g hg => GA_nil.1 hg⟩
      · rw [List.concat_eq_append] at *
        have hTw := wts_len (fun v hv => P.sat.vec v hv)
        have hdk := P.fin
        have hkb := P.kb
        have hTl : T.length + 1 ≤ 4000000000 := by
          have : (T ++ [w]).length = T.length + 1 := by simp -implicitDefEqProofs (maxSteps := 3000000)
          unfold dec at hdk
          omega
        have w1 := wrap_id (n := (T.length : Int)) (by omega)
        have p0 : (0 : Int) < (T.length : Int) + 1 := by omega
        have hlast := rown_last T w
        simp -implicitDefEqProofs (maxSteps := 3000000) [p0, w1, hlast]
        generalize hx : loopC _ _ _ = y
        generalize hl : lp Tryz.f157 1 = L at hx
        simp only [lp, bodyOf, Tryz.f157, Option.getD_some, loopsIn, List.append_nil, List.nil_append, List.cons_append, List.getD, List.getElem?_cons_zero, List.getElem?_cons_succ] at hl
        subst hl
        obtain ⟨qq, rfl, s, hqq⟩ := loop_dec hx (InsJ M N (Sp M (GA R0 [V] 0)) k) (fun qq => ∃ s, qq = (.exit 2, s) ∧ ∃ ver R' T' k', k' < k ∧ PutI M N (Sp M (GA R0 [V] 0)) R' T' k' ∧ lookL s.env 0 = some (.own 100000 0) ∧ lookL s.env 2 = some (.d (.int .i64 M)) ∧ lookL s.env 6 = some (.own 256 ver) ∧ obsL s.obs 256 = some (ver, .row (rowcells T')) ∧ obsL s.obs 100000 = some (0, .row (pcells R')) ∧ obsL s.obs 848 = none ∧ obsL s.obs 849 = none ∧ obsL s.obs 850 = none ∧ obsL s.obs 851 = none ∧ obsL s.obs 1168 = none ∧ obsL s.obs 2096 = none ∧ obsL s.obs 2097 = none ∧ obsL s.obs 2098 = none ∧ obsL s.obs 2099 = none ∧ obsL s.obs 2320 = none ∧ obsL s.obs 100001 = none ∧ obsL s.obs 100002 = none) N
          (by show N < m; omega) ⟨_, _, R, T, w, 0, ⟨P.sat, hS0, fun i hi => by omega, hdk, hkb⟩, by omega, by omega, by simp -implicitDefEqProofs (maxSteps := 3000000) [rowcells]; exact ⟨rfl, rfl⟩⟩
          (by
            rintro q s ⟨g, ver, R, T, v, j, I, rfl, hjN, rfl⟩
            have Sv := I.sat
            have hS0 := I.spn
            have hv := Sv.vec v (by simp -implicitDefEqProofs (maxSteps := 3000000))
            have hvl := hv.1
            have hvb := vec_bd (by omega) hv
            have hRl := Sv.rws.len
            have hdk := I.fin
            have hkb := I.kb
            have hzb := I.zb
            have hTw := wts_len (fun v hv => Sv.vec v hv)
            have hTl : T.length + 1 ≤ 4000000000 := by
              have : (T ++ [v]).length = T.length + 1 := by simp -implicitDefEqProofs (maxSteps := 3000000)
              unfold dec at hdk
              omega
            have hb1 : T.length + 1 ≤ bound := by simp -implicitDefEqProofs (maxSteps := 3000000) [bound]; omega
            have wj := wrap_id (n := (j : Int) + 1) (by omega)
            rcases Nat.lt_or_ge j N with hjn | hjn
            · have hjv : j < v.length := by omega
              have hjR : j < R.length := by omega
              have hvj := hv.2 j
              by_cases h1 : rn v j = 0
              · -- nothing stands there
                simp -implicitDefEqProofs (maxSteps := 3000000) [hjv, h1, wj]
                exact ⟨N - (j + 1), by omega, _, _, R, T, v, j + 1, ⟨Sv, hS0, hzb.succ h1, hdk, hkb⟩, rfl, by omega, by simp; exact ⟨rfl, rfl⟩⟩
              · have h1b : (rn v j == 0) = false := by simpa using h1
                by_cases hne : rown R j = []
                · -- no row stands there
                  obtain ⟨u, u', k1, k2, cu⟩ := ct_l04Unit m (by omega) M hM N (by omega) v hv j hjn h1
                  have g0 : 0 < gcdI (rn v j) M ∧ gcdI (rn v j) M < M := by
                    have e1 := gcdI_dvd_left M hvj.1
                    have e2 := gcdI_nonneg (rn v j) M
                    have e3 : gcdI (rn v j) M ≠ 0 := fun e => by rw [e] at e1; exact h1 (Int.zero_dvd.1 e1)
                    have e4 := Int.le_of_dvd (by omega) e1
                    omega
                  have g5 : gcdI (rn v j) M ∣ M := gcdI_dvd_right _ (by omega)
                  generalize gcdI (rn v j) M = d at *
                  obtain ⟨q1, q2⟩ := put_unit (by omega) hjn Sv hzb h1 hne g5 g0.1 g0.2 k1 k2
                  have nj : rn (cmb M u v 0 v) j = d := cmb_at hjv (by rw [Int.zero_mul, Int.add_zero]; exact k2) (by omega) g0.2
                  have nv : Vec M N (cmb M u v 0 v) := cmb_vec (by omega) hvl
                  have nb := vec_bd (by omega) nv
                  have nz : Zb (cmb M u v 0 v) j := cmb_zb hzb hzb
                  have nl := nv.1
                  have nne := vec_ne nv hjn
                  have hset := pcells_set (R := R) (k := j) nne
                  have z1 : rn (cmb M (M / d) (cmb M u v 0 v) 0 v) j = 0 := by
                    refine cmb_at (by omega) ?_ (by omega) (by omega)
                    rw [nj, show M / d * d + 0 * rn v j - 0 = M / d * d by grind, Int.ediv_mul_cancel g5]; exact Int.dvd_refl M
                  have hlt := dec_mixU (M := M) (T := T) (v := v) (next := cmb M u v 0 v) (a := cmb M (M / d) (cmb M u v 0 v) 0 v) (by omega) Sv.rws hjn (by rw [nj, stp_nil hne]; exact g0.2) nne (by omega) hvl ⟨by rw [cmb_len, nl], (cmb_zb nz hzb).succ z1⟩ h1
                  clear z1
                  generalize cmb M u v 0 v = next at *
                  have hpn := pinD_ne nne
                  have hjn2 : j < next.length := by omega
                  have qc := ediv_bd (a := M) (d := d) (by omega) g0.1
                  have cm := ct_l04Mix m (by omega) M (by omega) (M / d) 0 (by omega) (by omega) true false next v (by omega) (by omega) nb hvb
                  simp only [srow_t, srow_f] at cm
                  have t3 : M.tdiv d = M / d := Int.tdiv_eq_ediv_of_nonneg (by omega)
                  have v5 := wrap_sm (x := M / d) (by omega)
                  have hd0 : ¬ d = 0 := by omega
                  have hse : rown (R.set j next) j = next := by rw [rown_setD hjR]; simp -implicitDefEqProofs (maxSteps := 3000000)
                  simp -implicitDefEqProofs (maxSteps := 3000000) [hjv, h1, h1b, hne, cu, hjR, hset, hse, hpn, hjn2, nj, hd0, t3, v5, cm, hb1]
                  exact ⟨_, R.set j next, _, _, Nat.lt_of_lt_of_le hlt hdk, ⟨q1, fun u => (q2 u).trans (hS0 u), Nat.le_refl _, by omega⟩, rfl, by simp -implicitDefEqProofs (maxSteps := 3000000) [rowcells]⟩
                · obtain ⟨hP, hPz, hPp, hPd⟩ := Sv.rws.row j hne
                  have hol := hP.1
                  have holdb := vec_bd (by omega) hP
                  have hp := pinD_ne hne
                  have hjP : j < (rown R j).length := by omega
                  have hlp : 0 < (rown R j).length := by omega
                  have hl0 : ((((rown R j).length : Nat) : Int) == 0) = false := by simp; exact hne
                  have ha0 := holdb j
                  have han : ¬ rn (rown R j) j = 0 := by omega
                  have hPj := hP.2 j
                  by_cases hdiv : rn (rown R j) j ∣ rn v j
                  · have e0 : (rn v j).tmod (rn (rown R j) j) = 0 := Int.tmod_eq_zero_of_dvd hdiv
                    have t2 : (rn v j).tdiv (rn (rown R j) j) = rn v j / rn (rown R j) j := Int.tdiv_eq_ediv_of_nonneg hvj.1
                    have qb := ediv_bd (a := rn v j) (d := rn (rown R j) j) (hvb j) hPp
                    have v2 := wrap_sm (x := rn v j / rn (rown R j) j) (by omega)
                    have v4 := wrap_sm (x := -(rn v j / rn (rown R j) j)) (by omega)
                    have c2 := ct_l04Mix m (by omega) M (by omega) 1 (-(rn v j / rn (rown R j) j)) (by omega) (by omega) false true v (rown R j) (by omega) (by omega) hvb holdb
                    simp only [srow_t, srow_f] at c2
                    have z1 : rn (cmb M 1 v (-(rn v j / rn (rown R j) j)) (rown R j)) j = 0 := by
                      refine cmb_at (by omega) ?_ (by omega) (by omega)
                      rw [show 1 * rn v j + -(rn v j / rn (rown R j) j) * rn (rown R j) j - 0 = rn v j - rn v j / rn (rown R j) j * rn (rown R j) j by grind, Int.ediv_mul_cancel hdiv]; simp -implicitDefEqProofs (maxSteps := 3000000)
                    have hzb2 := (cmb_zb (m := M) (x := 1) (y := -(rn v j / rn (rown R j) j)) hzb hPz).succ z1
                    have hv2 : Vec M N (cmb M 1 v (-(rn v j / rn (rown R j) j)) (rown R j)) := cmb_vec (by omega) hvl
                    have cd := cmb_dvd (m := M) (x := 1) (y := -(rn v j / rn (rown R j) j)) hvl hol
                    obtain ⟨q1, q2⟩ := put_red Sv hne hzb h1 hv2 hzb2 (c := -(rn v j / rn (rown R j) j)) (fun i => by have := cd i; rwa [Int.one_mul] at this)
                    have hlt : dec M N R (T ++ [cmb M 1 v (-(rn v j / rn (rown R j) j)) (rown R j)]) < dec M N R (T ++ [v]) := by
                      have u1 := wt_le hv2.1 hzb2 (by omega)
                      have u2 := wt_ge h1 hjn
                      unfold dec
                      rw [wts_app, wts_app, wts_one, wts_one]; omega
                    generalize cmb M 1 v (-(rn v j / rn (rown R j) j)) (rown R j) = v' at *
                    simp -implicitDefEqProofs (maxSteps := 3000000) [hjv, h1, h1b, hjR, hp, hne, hl0, hjP, hlp, han, e0, c2, t2, v2, v4, wj]
                    exact ⟨N - (j + 1), by omega, _, _, R, T, v', j + 1, ⟨q1, fun u => (q2 u).trans (hS0 u), hzb2, by omega, hkb⟩, rfl, by omega, by simp; exact ⟨rfl, rfl⟩⟩
                  · have e0 : ((rn v j).tmod (rn (rown R j) j) == 0) = false := by
                      simp only [beq_eq_false_iff_ne, ne_eq]; exact fun z => hdiv (Int.dvd_of_tmod_eq_zero z)
                    obtain ⟨s', t', b1, b2, b3, cb⟩ := ct_l04Bezout m (by omega) (rn (rown R j) j) (rn v j) (by omega) (by omega)
                    have g1 : gcdI (rn (rown R j) j) (rn v j) ∣ rn (rown R j) j := gcdI_dvd_left _ (by omega)
                    have g2 : gcdI (rn (rown R j) j) (rn v j) ∣ rn v j := gcdI_dvd_right _ (by omega)
                    have g3 := gcdI_nonneg (rn (rown R j) j) (rn v j)
                    have g4 : gcdI (rn (rown R j) j) (rn v j) < rn (rown R j) j := by
                      have h5 := Int.le_of_dvd hPp g1
                      have h6 : gcdI (rn (rown R j) j) (rn v j) ≠ rn (rown R j) j := fun e => hdiv (by rw [← e]; exact g2)
                      omega
                    have g6 : gcdI (rn (rown R j) j) (rn v j) ≠ 0 := fun e => by rw [e] at g1; exact han (Int.zero_dvd.1 g1)
                    generalize gcdI (rn (rown R j) j) (rn v j) = d at *
                    have g0 : 0 < d := by omega
                    have g5 : d ∣ M := Int.dvd_trans g1 hPd
                    obtain ⟨q1, q2⟩ := put_mix2 (by omega) hjn Sv hzb h1 hne g0 (by omega) g5 g1 g2 b3
                    have nj : rn (cmb M s' (rown R j) t' v) j = d := cmb_at hjP (by rw [b3]; simp -implicitDefEqProofs (maxSteps := 3000000)) (by omega) (by omega)
                    have nv : Vec M N (cmb M s' (rown R j) t' v) := cmb_vec (by omega) hol
                    have nb := vec_bd (by omega) nv
                    have nz : Zb (cmb M s' (rown R j) t' v) j := cmb_zb hPz hzb
                    have nl := nv.1
                    have nne := vec_ne nv hjn
                    have hset := pcells_set (R := R) (k := j) nne
                    have z1 : rn (cmb M (M / d) (cmb M s' (rown R j) t' v) 0 v) j = 0 := by
                      refine cmb_at (by omega) ?_ (by omega) (by omega)
                      rw [nj, show M / d * d + 0 * rn v j - 0 = M / d * d by grind, Int.ediv_mul_cancel g5]; exact Int.dvd_refl M
                    have z2 : rn (cmb M (rn v j / d) (rown R j) (-(rn (rown R j) j / d)) v) j = 0 := by
                      refine cmb_at (by omega) ?_ (by omega) (by omega)
                      obtain ⟨p, hp⟩ := g1
                      obtain ⟨q, hq⟩ := g2
                      rw [hp, hq, Int.mul_ediv_cancel_left _ (by omega), Int.mul_ediv_cancel_left _ (by omega)]
                      exact ⟨0, by grind⟩
                    have hzb2 := (cmb_zb (m := M) (x := rn v j / d) (y := -(rn (rown R j) j / d)) hPz hzb).succ z2
                    have hv2 : Vec M N (cmb M (rn v j / d) (rown R j) (-(rn (rown R j) j / d)) v) := cmb_vec (by omega) hol
                    have hlt := dec_mixB (M := M) (T := T) (v := v) (next := cmb M s' (rown R j) t' v) (a := cmb M (M / d) (cmb M s' (rown R j) t' v) 0 v) (b := cmb M (rn v j / d) (rown R j) (-(rn (rown R j) j / d)) v) (by omega) Sv.rws hjn (by rw [nj, stp_row hne]; exact g4) nne (by omega) hvl ⟨by rw [cmb_len, nl], (cmb_zb nz hzb).succ z1⟩ ⟨hv2.1, hzb2⟩ h1
                    clear z1 z2
                    have qa := ediv_bd (a := rn (rown R j) j) (d := d) ha0 g0
                    have qb := ediv_bd (a := rn v j) (d := d) (hvb j) g0
                    have qc := ediv_bd (a := M) (d := d) (by omega) g0
                    have c2 := ct_l04Mix m (by omega) M (by omega) (rn v j / d) (-(rn (rown R j) j / d)) (by omega) (by omega) true false (rown R j) v (by omega) (by omega) holdb hvb
                    have c3 := ct_l04Mix m (by omega) M (by omega) s' t' b1 b2 true false (rown R j) v (by omega) (by omega) holdb hvb
                    generalize cmb M s' (rown R j) t' v = next at *
                    have hpn := pinD_ne nne
                    have c4 := ct_l04Mix m (by omega) M (by omega) (M / d) 0 (by omega) (by omega) true false next v (by omega) (by omega) nb hvb
                    generalize cmb M (rn v j / d) (rown R j) (-(rn (rown R j) j / d)) v = v' at *
                    simp only [srow_t, srow_f] at c2 c3 c4
                    have t1 : (rn v j).tdiv d = rn v j / d := Int.tdiv_eq_ediv_of_nonneg hvj.1
                    have t2 : (rn (rown R j) j).tdiv d = rn (rown R j) j / d := Int.tdiv_eq_ediv_of_nonneg ha0.1
                    have t3 : M.tdiv d = M / d := Int.tdiv_eq_ediv_of_nonneg (by omega)
                    have v1 := wrap_sm (x := rn v j / d) (by omega)
                    have v2 := wrap_sm (x := rn (rown R j) j / d) (by omega)
                    have v3 := wrap_sm (x := -(rn (rown R j) j / d)) (by omega)
                    have v5 := wrap_sm (x := M / d) (by omega)
                    have hd0 : ¬ d = 0 := by omega
                    have hse : rown (R.set j next) j = next := by rw [rown_setD hjR]; simp -implicitDefEqProofs (maxSteps := 3000000)
                    simp -implicitDefEqProofs (maxSteps := 3000000) [hjv, h1, h1b, hjR, hp, hne, hl0, hjP, hlp, han, e0, cb, c2, c3, c4, hset, hse, hpn, t1, t2, t3, v1, v2, v3, v5, hd0, hb1, wj]
                    exact ⟨N - (j + 1), by omega, _, _, R.set j next, T ++ [cmb M (M / d) next 0 v], v', j + 1, ⟨by rw [List.append_assoc]; exact q1, fun u => by rw [List.append_assoc]; exact (q2 u).trans (hS0 u), hzb2, by rw [List.append_assoc]; exact Nat.le_of_lt (Nat.lt_of_lt_of_le hlt hdk), hkb⟩, rfl, by omega, by simp -implicitDefEqProofs (maxSteps := 3000000) [rowcells]; exact ⟨rfl, rfl⟩⟩
            · -- behind the last place: the row is 0
              have hjv : ¬ j < v.length := by omega
              have hz : ∀ i, rn v i = 0 := fun i => by
                rcases Nat.lt_or_ge i N with z | z
                · exact hzb i (by omega)
                · exact rn_ge (by omega)
              obtain ⟨q1, q2⟩ := put_zero Sv hz
              have hlt := dec_pop (M := M) (R := R) (T := T) hvl
              simp -implicitDefEqProofs (maxSteps := 3000000) [hjv]
              exact ⟨_, R, T, _, Nat.lt_of_lt_of_le hlt hdk, ⟨q1, fun u => (q2 u).trans (hS0 u), Nat.le_refl _, by omega⟩, rfl, ⟨rfl, rfl⟩, rfl⟩)
        obtain ⟨rfl, ver, R2, T2, k2, hk2, P2, f1⟩ := hqq
        simp -implicitDefEqProofs (maxSteps := 3000000) [f1]
        exact ⟨k2, hk2, _, _, R2, T2, P2, rfl⟩)
  obtain ⟨rfl, ⟨h1, h2⟩, h3⟩ := hqq
  refine ⟨R', h1, h2, ?_⟩
  simp -implicitDefEqProofs (maxSteps := 3000000) [h3]
end Go.Proofs.YtnfhglplafmfiaaGreatE
