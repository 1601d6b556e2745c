/- chartroomref08.Same: are lists of shares equal. -/
import Derived.Stop.BytesEq
import Derived.Deep.QuietTactic
import Derived.Test.YtgklcfipgdbbgaaDoorM12
import Derived.Test.YtgklcfipgdbbgaaDoorM13
namespace Go.Proofs.YtgklcfipgdbbgaaDoor
open Go.RowKit

/-- '==' and '!=' at two shares stand still in a walk and wait for an equation. -/
def eqlSh (x y : Array Value) : Sem Value := binOp .eql 42 (.agg x) (.agg y)
@[go_sem high] theorem eql_share_eq (x y : Array Value) : binOp .eql 42 (.agg x) (.agg y) = eqlSh x y := rfl
def neqSh (x y : Array Value) : Sem Value := binOp .neq 42 (.agg x) (.agg y)
@[go_sem high] theorem neq_share_eq (x y : Array Value) : binOp .neq 42 (.agg x) (.agg y) = neqSh x y := rfl
theorem run_eqlSh (a b a' b' : Int) (w : World) : (eqlSh #[.int .i64 a, .int .i64 b] #[.int .i64 a', .int .i64 b']).run Tryd.prog w = .ok (.bool (a == a' && b == b')) w := by
  have h1 : ∀ (x y : Int) w, (part 3 #[.int .i64 x, .int .i64 y] 0).run Tryd.prog w = .ok (.int .i64 x) w := fun x y w => by simp [part, isAgg_int .i64 (show Tryd.prog.underlying 3 = _ by kernel_rfl)]
  have h2 : ∀ (x y : Int) w, (part 3 #[.int .i64 x, .int .i64 y] 1).run Tryd.prog w = .ok (.int .i64 y) w := fun x y w => by simp [part, isAgg_int .i64 (show Tryd.prog.underlying 3 = _ by kernel_rfl)]
  have hi : ∀ d (x y : Int) w, (Op.equalIn (d + 1) 3 (.int .i64 x) (.int .i64 y)).run Tryd.prog w = .ok (x == y) w := fun d x y w => run_equalIn_int w d _ .i64 .i64 x y (by kernel_rfl)
  unfold eqlSh
  rw [run_eql_struct, run_equalIn_struct w 9999 42 _ _ (by kernel_rfl) (by kernel_rfl)]
  obtain ⟨f, hf⟩ : ∃ f, f = (Tryd.prog.fieldsOf 42).toList := ⟨_, rfl⟩
  have hfs : f.map (fun f => (f.name, f.type, f.offset)) = [("At", 3, 0), ("Y", 3, 1)] := by rw [hf]; kernel_rfl
  rw [← hf]
  clear hf
  have hlen : f.length = 2 := by simpa using congrArg List.length hfs
  match f, hlen, hfs with
  | [f0, f1], _, hfs =>
    simp only [List.map_cons, List.map_nil, List.cons.injEq, Prod.mk.injEq, and_true] at hfs
    obtain ⟨⟨n0, t0, o0⟩, ⟨n1, t1, o1⟩⟩ := hfs
    simp [Op.eqFields, n0, t0, o0, n1, t1, o1, h1, h2, hi 9998]
    by_cases e1 : a = a' <;> by_cases e2 : b = b' <;> simp [e1, e2]

theorem run_neqSh (a b a' b' : Int) (w : World) : (neqSh #[.int .i64 a, .int .i64 b] #[.int .i64 a', .int .i64 b']).run Tryd.prog w = .ok (.bool (!(a == a' && b == b'))) w := by
  have h := run_eqlSh a b a' b' w
  unfold eqlSh at h
  unfold neqSh
  rw [run_eql_struct] at h
  rw [run_neq_struct]
  cases hq : Sem.run Tryd.prog (Op.equalIn 10000 42 (.agg #[.int .i64 a, .int .i64 b]) (.agg #[.int .i64 a', .int .i64 b'])) w with
  | ok v w2 =>
    rw [hq] at h
    simp only [Result.andThen_ok, Result.ok.injEq, Value.bool.injEq] at h ⊢
    rw [h.1, h.2]
    simp
  | _ => rw [hq] at h; cases h
theorem sh_ne {l m : Chart.Rs} {k : Nat} (hl : k < l.length) (hm : k < m.length) (h : l[k] ≠ m[k]) : (l == m) = false := by
  rw [beq_eq_false_iff_ne]
  intro he
  subst he
  exact h rfl
theorem sh_eq {l m : Chart.Rs} (hl : l.length = m.length) (h : l.take l.length = m.take l.length) : (l == m) = true := by
  rw [beq_iff_eq]
  rw [List.take_length, hl, List.take_length] at h
  exact h

set_option maxRecDepth 20000 in
theorem same_any (l m : Chart.Rs) (h3 : l.length ≤ 1000) (h4 : m.length ≤ 1000) (v x : Value) (w : World) (hl : Sv w.heap.size w v l) (hm : Sv w.heap.size w x m) :
    Calls Tryd.prog 15 #[v, x] w fun e w' => e = .returned (.bool (l == m)) ∧ Below w.heap.size w w' := by
  obtain ⟨a, cap, rfl, -, hx⟩ := hl.shape
  obtain ⟨a', cap', rfl, -, hx'⟩ := hm.shape
  obtain ⟨n, hn⟩ : ∃ n, n = l.length := ⟨_, rfl⟩
  obtain ⟨k, hk⟩ : ∃ k, k = m.length := ⟨_, rfl⟩
  rw [← hn] at h3 ⊢
  rw [← hk] at h4 ⊢
  obtain ⟨r, hr⟩ : ∃ r, r = (l == m) := ⟨_, rfl⟩
  rw [← hr]
  have H := Lib.hid (And.intro hn (And.intro hk (And.intro hr (And.intro hx hx'))))
  have eq := run_neqSh
  clear hn hk hr hx hx' hl hm
  by_cases hnk : n = k
  · subst hnk
    go_enter Tryd.func15, Tryd.ntmps15
    go_wp2_with fail
    go_loopw [5] (fun i wr => ∃ t : Nat, t ≤ n ∧ i = .int .i64 t ∧ Hid (l.take t = m.take t ∧ Below w.heap.size w wr)) (fun i _ => n - (intOf i).toNat)
    case atStart => exact ⟨0, Nat.zero_le _, rfl, Lib.hid ⟨by simp, Below.refl _ _⟩⟩
    case round =>
      obtain ⟨t, ht, rfl, hF⟩ := hrel
      by_cases hlt : t < n
      · have htl : t < l.length := by have := H.out.1; omega
        have htm : t < m.length := by have := H.out.2.1; omega
        obtain ⟨g, off, rfl, hg, hli⟩ := H.out.2.2.2.1 (by intro h0; rw [h0] at htl; simp at htl)
        obtain ⟨g', off', rfl, hg', hmi⟩ := H.out.2.2.2.2 (by intro h0; rw [h0] at htm; simp at htm)
        have c1 := (hli.below hF.out.2 hg) t htl
        have c2 := (hmi.below hF.out.2 hg') t htm
        have e1 := List.take_succ_eq_append_getElem (l := l) (i := t) htl
        have e2 := List.take_succ_eq_append_getElem (l := m) (i := t) htm
        have hne := fun h => sh_ne htl htm h
        have ht1000 : (t : Int) < (n : Int) := by omega
        generalize l[t] = y at *
        generalize m[t] = z at *
        obtain ⟨p, y⟩ := y
        obtain ⟨q, z⟩ := z
        obtain ⟨k0, k1⟩ := c1
        obtain ⟨k2, k3⟩ := c2
        dsimp only at k0 k1 k2 k3
        have HE := Lib.hid (And.intro e1 (And.intro e2 hne))
        clear e1 e2 hne hli hmi
        cases hyz : (p == q && y == z)
        · have hr : r = false := by
            rw [H.out.2.2.1]
            refine HE.out.2.2 (fun h => ?_)
            injection h with e1 e2
            rw [e1, e2] at hyz
            simp at hyz
          subst hr
          go_wp2_with fail
          go_quiet (fail)
          go_wp2_with fail
          go_ret
          exact ⟨rfl, hF.out.2.trans (Below.of_drewN _ _ _)⟩
        · have hpq : p = q ∧ y = z := by simpa using hyz
          go_wp2_with fail
          go_quiet (fail)
          go_wp2_with fail
          refine ⟨⟨t + 1, by omega, by go_num, Lib.hid ⟨?_, hF.out.2.trans (Below.of_drewN _ _ _)⟩⟩, by simp [intOf]; omega⟩
          rw [HE.out.1, HE.out.2.1, hF.out.1, hpq.1, hpq.2]
      · obtain rfl : t = n := by omega
        have hr : r = true := by
          rw [H.out.2.2.1]
          have h5 := H.out.1
          have h6 := H.out.2.1
          refine sh_eq (by omega) ?_
          rw [← h5]
          exact hF.out.1
        subst hr
        go_wp2_with fail
        go_ret
        exact ⟨rfl, hF.out.2⟩
  · have hb : ((n : Int) == (k : Int)) = false := beq_eq_false_iff_ne.2 (by omega)
    have hr : r = false := by
      rw [H.out.2.2.1, beq_eq_false_iff_ne]
      intro he
      have := congrArg List.length he
      have h5 := H.out.1
      have h6 := H.out.2.1
      omega
    subst hr
    go_enter Tryd.func15, Tryd.ntmps15
    go_wp2_with fail
    go_ret
    exact ⟨rfl, Below.refl _ _⟩
end Go.Proofs.YtgklcfipgdbbgaaDoor
