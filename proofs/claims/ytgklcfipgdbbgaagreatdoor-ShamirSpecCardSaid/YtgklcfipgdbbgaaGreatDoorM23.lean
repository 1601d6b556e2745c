/- chartroomref08.Same: are lists of shares equal. -/
import Derived.Stop.BytesEq
import Derived.Deep.QuietTactic
import Derived.BigQuiet
import Derived.Test.YtgklcfipgdbbgaaGreatDoorM12
import Derived.Test.YtgklcfipgdbbgaaGreatDoorM13
namespace Go.Proofs.YtgklcfipgdbbgaaGreatDoor
open Go.RowKit

/-- '==' and '!=' at two shares stand still in a walk and wait for an equation. -/
def eqlSh (x y : Array Value) : Sem Value := binOp .eql 36 (.agg x) (.agg y)
@[go_sem high] theorem eql_share_eq (x y : Array Value) : binOp .eql 36 (.agg x) (.agg y) = eqlSh x y := rfl
def neqSh (x y : Array Value) : Sem Value := binOp .neq 36 (.agg x) (.agg y)
@[go_sem high] theorem neq_share_eq (x y : Array Value) : binOp .neq 36 (.agg x) (.agg y) = neqSh x y := rfl
theorem run_eqlSh (a b a' b' : Int) (w : World) : (eqlSh #[.int .i64 a, .int .i64 b] #[.int .i64 a', .int .i64 b']).run Tryz.prog w = .ok (.bool (a == a' && b == b')) w := by
  have h1 : ∀ (x y : Int) w, (part 3 #[.int .i64 x, .int .i64 y] 0).run Tryz.prog w = .ok (.int .i64 x) w := fun x y w => by simp [part, isAgg_int .i64 (show Tryz.prog.underlying 3 = _ by kernel_rfl)]
  have h2 : ∀ (x y : Int) w, (part 3 #[.int .i64 x, .int .i64 y] 1).run Tryz.prog w = .ok (.int .i64 y) w := fun x y w => by simp [part, isAgg_int .i64 (show Tryz.prog.underlying 3 = _ by kernel_rfl)]
  have hi : ∀ d (x y : Int) w, (Op.equalIn (d + 1) 3 (.int .i64 x) (.int .i64 y)).run Tryz.prog w = .ok (x == y) w := fun d x y w => run_equalIn_int w d _ .i64 .i64 x y (by kernel_rfl)
  unfold eqlSh
  rw [run_eql_struct, run_equalIn_struct w 9999 36 _ _ (by kernel_rfl) (by kernel_rfl)]
  obtain ⟨f, hf⟩ : ∃ f, f = (Tryz.prog.fieldsOf 36).toList := ⟨_, rfl⟩
  have hfs : f.map (fun f => (f.name, f.type, f.offset)) = [("At", 3, 0), ("Y", 3, 1)] := by rw [hf]; kernel_rfl
  rw [← hf]
  clear hf
  have hlen : f.length = 2 := by simpa using congrArg List.length hfs
  match f, hlen, hfs with
  | [f0, f1], _, hfs =>
    simp only [List.map_cons, List.map_nil, List.cons.injEq, Prod.mk.injEq, and_true] at hfs
    obtain ⟨⟨n0, t0, o0⟩, ⟨n1, t1, o1⟩⟩ := hfs
    simp [Op.eqFields, n0, t0, o0, n1, t1, o1, h1, h2, hi 9998]
    by_cases e1 : a = a' <;> by_cases e2 : b = b' <;> simp [e1, e2]

theorem run_neqSh (a b a' b' : Int) (w : World) : (neqSh #[.int .i64 a, .int .i64 b] #[.int .i64 a', .int .i64 b']).run Tryz.prog w = .ok (.bool (!(a == a' && b == b'))) w := by
  have h := run_eqlSh a b a' b' w
  unfold eqlSh at h
  unfold neqSh
  rw [run_eql_struct] at h
  rw [run_neq_struct]
  cases hq : Sem.run Tryz.prog (Op.equalIn 10000 36 (.agg #[.int .i64 a, .int .i64 b]) (.agg #[.int .i64 a', .int .i64 b'])) w with
  | ok v w2 =>
    rw [hq] at h
    simp only [Result.andThen_ok, Result.ok.injEq, Value.bool.injEq] at h ⊢
    rw [h.1, h.2]
    simp
  | _ => rw [hq] at h; cases h
theorem sh_ne {l m : Chart.Rs} {k : Nat} (hl : k < l.length) (hm : k < m.length) (h : l[k] ≠ m[k]) : (l == m) = false := by
  rw [beq_eq_false_iff_ne]
  intro he
  subst he
  exact h rfl
theorem sh_eq {l m : Chart.Rs} (hl : l.length = m.length) (h : l.take l.length = m.take l.length) : (l == m) = true := by
  rw [beq_iff_eq]
  rw [List.take_length, hl, List.take_length] at h
  exact h

set_option maxRecDepth 20000 in
theorem same_any (l m : Chart.Rs) (h3 : l.length ≤ 1000) (h4 : m.length ≤ 1000) (v x : Value) (w : World) (hl : Sv w.heap.size w v l) (hm : Sv w.heap.size w x m) :
    Calls Tryz.prog 10 #[v, x] w fun e w' => e = .returned (.bool (l == m)) ∧ Below w.heap.size w w' := by
  obtain ⟨a, cap, rfl, -, hx⟩ := hl.shape
  obtain ⟨a', cap', rfl, -, hx'⟩ := hm.shape
  obtain ⟨n, hn⟩ : ∃ n, n = l.length := ⟨_, rfl⟩
  obtain ⟨k, hk⟩ : ∃ k, k = m.length := ⟨_, rfl⟩
  rw [← hn] at h3 ⊢
  rw [← hk] at h4 ⊢
  obtain ⟨r, hr⟩ : ∃ r, r = (l == m) := ⟨_, rfl⟩
  rw [← hr]
  have H := Lib.hid (And.intro hn (And.intro hk (And.intro hr (And.intro hx hx'))))
  have eq := run_neqSh
  clear hn hk hr hx hx' hl hm
  by_cases hnk : n = k
  · subst hnk
    go_enter Tryz.func10, Tryz.ntmps10
    go_wp2_with fail
    go_loopw [5] (fun i wr => ∃ t : Nat, t ≤ n ∧ i = .int .i64 t ∧ Hid (l.take t = m.take t ∧ Below w.heap.size w wr)) (fun i _ => n - (intOf i).toNat)
    case atStart => exact ⟨0, Nat.zero_le _, rfl, Lib.hid ⟨by simp, Below.refl _ _⟩⟩
    case round =>
      obtain ⟨t, ht, rfl, hF⟩ := hrel
      by_cases hlt : t < n
      · have htl : t < l.length := by have := H.out.1; omega
        have htm : t < m.length := by have := H.out.2.1; omega
        obtain ⟨g, off, rfl, hg, hli⟩ := H.out.2.2.2.1 (by intro h0; rw [h0] at htl; simp at htl)
        obtain ⟨g', off', rfl, hg', hmi⟩ := H.out.2.2.2.2 (by intro h0; rw [h0] at htm; simp at htm)
        have c1 := (hli.below hF.out.2 hg) t htl
        have c2 := (hmi.below hF.out.2 hg') t htm
        have e1 := List.take_succ_eq_append_getElem (l := l) (i := t) htl
        have e2 := List.take_succ_eq_append_getElem (l := m) (i := t) htm
        have hne := fun h => sh_ne htl htm h
        have ht1000 : (t : Int) < (n : Int) := by omega
        generalize l[t] = y at *
        generalize m[t] = z at *
        obtain ⟨p, y⟩ := y
        obtain ⟨q, z⟩ := z
        obtain ⟨k0, k1⟩ := c1
        obtain ⟨k2, k3⟩ := c2
        dsimp only at k0 k1 k2 k3
        have HE := Lib.hid (And.intro e1 (And.intro e2 hne))
        clear e1 e2 hne hli hmi
        cases hyz : (p == q && y == z)
        · have hr : r = false := by
            rw [H.out.2.2.1]
            refine HE.out.2.2 (fun h => ?_)
            injection h with e1 e2
            rw [e1, e2] at hyz
            simp at hyz
          subst hr
          go_wp2_with fail
          go_quiet (fail)
          go_wp2_with fail
          go_ret
          exact ⟨rfl, hF.out.2.trans (Below.of_drewN _ _ _)⟩
        · have hpq : p = q ∧ y = z := by simpa using hyz
          go_wp2_with fail
          go_quiet (fail)
          go_wp2_with fail
          refine ⟨⟨t + 1, by omega, by go_num, Lib.hid ⟨?_, hF.out.2.trans (Below.of_drewN _ _ _)⟩⟩, by simp [intOf]; omega⟩
          rw [HE.out.1, HE.out.2.1, hF.out.1, hpq.1, hpq.2]
      · obtain rfl : t = n := by omega
        have hr : r = true := by
          rw [H.out.2.2.1]
          have h5 := H.out.1
          have h6 := H.out.2.1
          refine sh_eq (by omega) ?_
          rw [← h5]
          exact hF.out.1
        subst hr
        go_wp2_with fail
        go_ret
        exact ⟨rfl, hF.out.2⟩
  · have hb : ((n : Int) == (k : Int)) = false := beq_eq_false_iff_ne.2 (by omega)
    have hr : r = false := by
      rw [H.out.2.2.1, beq_eq_false_iff_ne]
      intro he
      have := congrArg List.length he
      have h5 := H.out.1
      have h6 := H.out.2.1
      omega
    subst hr
    go_enter Tryz.func10, Tryz.ntmps10
    go_wp2_with fail
    go_ret
    exact ⟨rfl, Below.refl _ _⟩
end Go.Proofs.YtgklcfipgdbbgaaGreatDoor

/- chartroomref08.scalar and Check. -/
namespace Go.Proofs.YtgklcfipgdbbgaaGreatDoor
open Go.RowKit

theorem rscalar8_any (x : Int) (w : World) : Calls Tryz.prog 19 #[.int .i64 x] w fun e w' => e = .returned (.bool (!outB x)) ∧ w = w' := by
  have hcase : (x < 0 ∧ outB x = true) ∨ (0 ≤ x ∧ x < 2305843009213688669 ∧ outB x = false) ∨ (0 ≤ x ∧ 2305843009213688669 ≤ x ∧ outB x = true) := by
    unfold outB
    simp only [Bool.or_eq_true, decide_eq_true_eq, Bool.or_eq_false_iff, decide_eq_false_iff_not]
    omega
  rcases hcase with ⟨h1, hr⟩ | ⟨h1, h2, hr⟩ | ⟨h1, h2, hr⟩
  all_goals
    have HR := Lib.hid hr
    clear hr
    go_enter Tryz.func19, Tryz.ntmps19
    go_wp2_with fail
    go_ret
    exact ⟨by rw [HR.out]; first | rfl | (show Ending.returned (.bool (decide (x < 2305843009213688669))) = _; congr 2; simp; omega), rfl⟩

set_option maxRecDepth 20000 in
set_option maxHeartbeats 4000000 in
theorem rcheck_at (l : Chart.Rs) (g off cap : Nat) (h1 : 1 ≤ l.length) (h2 : l.length ≤ 64) (w : World) (hS : SAt w g off l) (hg : g < w.heap.size) :
    Calls Tryz.prog 12 #[.slice (some ⟨g, off, none⟩) l.length cap] w fun e w' => e = .returned (.int .i64 (if Chart.okFrom 0 l then 0 else 80)) ∧ Below w.heap.size w w' := by
  obtain ⟨n, hn⟩ : ∃ n, n = l.length := ⟨_, rfl⟩
  rw [← hn] at h1 h2 ⊢
  obtain ⟨z, hz⟩ : ∃ z : Int, z = if Chart.okFrom 0 l then 0 else 80 := ⟨_, rfl⟩
  rw [← hz]
  have H := Lib.hid (And.intro hS (And.intro hn hz))
  clear hS hn hz
  go_enter Tryz.func12, Tryz.ntmps12
  go_wp2_with fail
  go_loopw [3] (fun i wr => ∃ (t : Nat) (p : Int), t ≤ n ∧ i = .int .i64 t ∧ Hid (Below w.heap.size w wr ∧ Chart.okFrom 0 l = Chart.okFrom p (l.drop t) ∧ ((t = 0 ∧ p = 0) ∨ (∃ d, t = d + 1 ∧ 1 ≤ p ∧ ∃ h : d < l.length, (l[d]).1 = p)))) (fun i _ => n - (intOf i).toNat)
  case atStart => exact ⟨0, 0, by omega, rfl, Lib.hid ⟨Below.refl _ _, rfl, Or.inl ⟨rfl, rfl⟩⟩⟩
  case round =>
    obtain ⟨t, p, ht, rfl, hB⟩ := hrel
    by_cases hlt : t < n
    · have htl : t < l.length := by have := H.out.2.1; omega
      obtain ⟨x, hx⟩ : ∃ x, x = l[t] := ⟨_, rfl⟩
      have hc := H.out.1.below hB.out.1 hg t htl
      have hd := okFrom_drop l p (k := t) htl
      rw [← hx] at hc hd
      rw [okAt_out] at hd
      obtain ⟨a, y⟩ := x
      dsimp only at hc hd
      obtain ⟨k0, k1⟩ := hc
      have HD := Lib.hid (And.intro (hB.out.2.1.trans hd) (show (l[t]).1 = a by rw [← hx]))
      clear hd hx
      have C := rscalar8_any y
      rcases hB.out.2.2 with ⟨rfl, rfl⟩ | ⟨d, htd, hp1, hdl, hpd⟩
      · rw [Nat.zero_mul, Nat.add_zero] at k0 k1
        have hn0 : (0 : Int) < (n : Int) := by omega
        have hcase : (a < 1) ∨ (1 ≤ a ∧ 64 < a) ∨ (1 ≤ a ∧ a ≤ 64) := by omega
        rcases hcase with b1 | ⟨b1, b2⟩ | ⟨b1, b2⟩
        · have hz : z = 80 := by rw [H.out.2.2, HD.out.1]; simp [show a ≤ 0 by omega]
          subst hz
          go_wp2_with fail
          go_quiet (exact Calls.quiet_of_same (stillOf (C _)))
          go_wp2_with fail
          go_ret
          exact ⟨rfl, hB.out.1.trans (Below.of_drewN _ _ _)⟩
        · have d1 : decide (a < 1) = false := decide_eq_false (by omega)
          have hz : z = 80 := by rw [H.out.2.2, HD.out.1]; simp [show a > 64 by omega]
          subst hz
          go_wp2_with fail
          go_quiet (exact Calls.quiet_of_same (stillOf (C _)))
          go_wp2_with fail
          go_ret
          exact ⟨rfl, hB.out.1.trans (Below.of_drewN _ _ _)⟩
        · have f1 : ¬ a ≤ 0 := by omega
          have f2 : ¬ a > 64 := by omega
          have d1 : decide (a < 1) = false := decide_eq_false (by omega)
          have d2 : decide (64 < a) = false := decide_eq_false (by omega)
          cases ho : outB y
          · rw [ho] at C HD
            have HZ := Lib.hid (show Chart.okFrom 0 l = Chart.okFrom a (l.drop (0 + 1)) by rw [HD.out.1]; simp [f1, f2])
            go_wp2_with fail
            go_quiet (exact Calls.quiet_of_same (stillOf (C _)))
            go_wp2_with fail
            refine ⟨⟨0 + 1, a, by omega, by go_num, Lib.hid ⟨hB.out.1.trans (Below.of_drewN _ _ _), HZ.out, Or.inr ⟨0, rfl, by omega, htl, HD.out.2⟩⟩⟩, by simp [intOf]; omega⟩
          · rw [ho] at C HD
            have hz : z = 80 := by rw [H.out.2.2, HD.out.1]; simp [f1, f2]
            subst hz
            go_wp2_with fail
            go_quiet (exact Calls.quiet_of_same (stillOf (C _)))
            go_wp2_with fail
            go_ret
            exact ⟨rfl, hB.out.1.trans (Below.of_drewN _ _ _)⟩
      · have kp : wr.cell? ⟨g, off + d * 2, none⟩ = some (.int .i64 p) := by
          have := (H.out.1.below hB.out.1 hg d hdl).1
          rw [hpd] at this
          exact this
        have e1 : IntKind.i64.wrap ((t : Int) - 1) = (d : Int) := by rw [wrap_i64_small _ (by omega) (by omega)]; omega
        have ht0 : 0 < (t : Int) := by omega
        have htn : (t : Int) < (n : Int) := by omega
        have d0 : decide (0 < t) = true := decide_eq_true (by omega)
        have hdn : (d : Int) < (n : Int) := by omega
        clear htd hpd hdl
        have hcase : (a < 1) ∨ (1 ≤ a ∧ 64 < a) ∨ (1 ≤ a ∧ a ≤ 64 ∧ a ≤ p) ∨ (1 ≤ a ∧ a ≤ 64 ∧ p < a) := by omega
        rcases hcase with b1 | ⟨b1, b2⟩ | ⟨b1, b2, b3⟩ | ⟨b1, b2, b3⟩
        · have hz : z = 80 := by rw [H.out.2.2, HD.out.1]; simp [show a ≤ p by omega]
          subst hz
          go_wp2_with fail
          go_quiet (exact Calls.quiet_of_same (stillOf (C _)))
          go_wp2_with fail
          go_ret
          exact ⟨rfl, hB.out.1.trans (Below.of_drewN _ _ _)⟩
        · have d1 : decide (a < 1) = false := decide_eq_false (by omega)
          have hz : z = 80 := by rw [H.out.2.2, HD.out.1]; simp [show a > 64 by omega]
          subst hz
          go_wp2_with fail
          go_quiet (exact Calls.quiet_of_same (stillOf (C _)))
          go_wp2_with fail
          go_ret
          exact ⟨rfl, hB.out.1.trans (Below.of_drewN _ _ _)⟩
        · have d1 : decide (a < 1) = false := decide_eq_false (by omega)
          have d2 : decide (64 < a) = false := decide_eq_false (by omega)
          have hz : z = 80 := by rw [H.out.2.2, HD.out.1]; simp [show a ≤ p by omega]
          subst hz
          go_wp2_with fail
          go_quiet (exact Calls.quiet_of_same (stillOf (C _)))
          go_wp2_with fail
          go_ret
          exact ⟨rfl, hB.out.1.trans (Below.of_drewN _ _ _)⟩
        · have f1 : ¬ a ≤ p := by omega
          have f2 : ¬ a > 64 := by omega
          have d3 : decide (a ≤ p) = false := decide_eq_false (by omega)
          have d1 : decide (a < 1) = false := decide_eq_false (by omega)
          have d2 : decide (64 < a) = false := decide_eq_false (by omega)
          cases ho : outB y
          · rw [ho] at C HD
            have HZ := Lib.hid (show Chart.okFrom 0 l = Chart.okFrom a (l.drop (t + 1)) by rw [HD.out.1]; simp [f1, f2])
            go_wp2_with fail
            go_quiet (exact Calls.quiet_of_same (stillOf (C _)))
            go_wp2_with fail
            refine ⟨⟨t + 1, a, by omega, by go_num, Lib.hid ⟨hB.out.1.trans (Below.of_drewN _ _ _), HZ.out, Or.inr ⟨t, rfl, by omega, htl, HD.out.2⟩⟩⟩, by simp [intOf]; omega⟩
          · rw [ho] at C HD
            have hz : z = 80 := by rw [H.out.2.2, HD.out.1]; simp [f1, f2]
            subst hz
            go_wp2_with fail
            go_quiet (exact Calls.quiet_of_same (stillOf (C _)))
            go_wp2_with fail
            go_ret
            exact ⟨rfl, hB.out.1.trans (Below.of_drewN _ _ _)⟩
    · obtain rfl : t = n := by omega
      have hz : z = 0 := by rw [H.out.2.2, hB.out.2.1, List.drop_of_length_le (by have := H.out.2.1; omega)]; rfl
      subst hz
      go_wp2_with fail
      go_ret
      exact ⟨rfl, hB.out.1⟩

theorem rcheck_out (a : Option Addr) (n cap : Nat) (h : n < 1 ∨ 64 < n) (w : World) :
    Calls Tryz.prog 12 #[.slice a n cap] w fun e w' => e = .returned (.int .i64 80) ∧ w = w' := by
  by_cases h1 : n < 1
  · obtain rfl : n = 0 := by omega
    clear h h1
    go_enter Tryz.func12, Tryz.ntmps12
    go_wp2_with fail
    go_ret
    exact ⟨rfl, rfl⟩
  · have h2 : 64 < n := by omega
    clear h
    go_enter Tryz.func12, Tryz.ntmps12
    go_wp2_with fail
    go_ret
    exact ⟨rfl, rfl⟩
theorem rcheck_any (v : Value) (l : Chart.Rs) (w : World) (hS : Sv w.heap.size w v l) :
    Calls Tryz.prog 12 #[v] w fun e w' => e = .returned (.int .i64 (shErr l)) ∧ Below w.heap.size w w' := by
  obtain ⟨a, cap, rfl, hc, hx⟩ := hS.shape
  by_cases h : l.length < 1 ∨ 64 < l.length
  · rw [shErr_out l h]
    refine (rcheck_out a l.length cap h w).mono ?_
    rintro e w' ⟨rfl, rfl⟩
    exact ⟨rfl, Below.refl _ _⟩
  · obtain ⟨g, off, rfl, hg, hS⟩ := hx (by intro h0; subst h0; simp at h)
    rw [shErr_in l (by omega) (by omega)]
    exact rcheck_at l g off cap (by omega) (by omega) w hS hg
end Go.Proofs.YtgklcfipgdbbgaaGreatDoor
