/- What a function with two results hands back where one or both live in memory. -/
import Derived.Test.YtejjincnghmbbaaGreatDoorM7
import Derived.Test.YtejjincnghmbbaaGreatDoorM10
import Derived.Test.YtejjincnghmbbaaGreatDoorM17
import Derived.Test.YtejjincnghmbbaaGreatDoorM18
namespace Go.Proofs.YtejjincnghmbbaaGreatDoor
open Go.RowKit

theorem results_tmp_cell {P : Program} {fn : Func} {u p : Tmp} {ty : TypeId} (h : fn.results = #[.tmp u, .cell p ty]) (tmps : Array Value) (w : World) (g o : Nat) (x v : Value)
    (hu : tmps.getD u undef = x) (hp : tmps.getD p undef = .pointer (some ⟨g, o, none⟩)) (ha : ∀ w, (isAgg ty).run P w = .ok false w) (hc : w.cell? ⟨g, o, none⟩ = some v) :
    (results fn tmps).run P w = .ok (.tuple #[x, v]) w := by
  have hp' : tmps[p]?.getD undef = .pointer (some ⟨g, o, none⟩) := by simpa using hp
  have hu' : tmps[u]?.getD undef = x := by simpa using hu
  simp [results, h, hp', hu', asAddr, loadVar, ha, hc]

theorem results_row_cell {P : Program} {fn : Func} {q p : Tmp} {tq ty : TypeId} (h : fn.results = #[.cell q tq, .cell p ty]) (tmps : Array Value) (w : World) (g' : Nat) (t : TypeId) (cs : Array Value) (fr : Nat × Nat) (d : TypeDesc)
    (hq : tmps.getD q undef = .pointer (some ⟨g', 0, none⟩)) (hg : w.heap[g']? = some (.cells cs t fr))
    (hu : P.underlying tq = some d) (hd : (match d with | .struct _ | .array _ _ => true | _ => false) = true) (hi : (P.info? tq).map (·.size) = some cs.size)
    (g o : Nat) (v : Value) (hp : tmps.getD p undef = .pointer (some ⟨g, o, none⟩)) (ha : ∀ w, (isAgg ty).run P w = .ok false w) (hc : w.cell? ⟨g, o, none⟩ = some v) :
    (results fn tmps).run P w = .ok (.tuple #[.agg cs, v]) w := by
  have hp' : tmps[p]?.getD undef = .pointer (some ⟨g, o, none⟩) := by simpa using hp
  have hq' : tmps[q]?.getD undef = .pointer (some ⟨g', 0, none⟩) := by simpa using hq
  have hl : (loadVar ty ⟨g, o, none⟩).run P w = .ok v w := by simp [loadVar, ha, hc]
  simp [results, h, hp', hq', asAddr, run_loadVar_row w g' t tq cs fr d hg hu hd hi, hl]

theorem results_row_tmp {P : Program} {fn : Func} {q u : Tmp} {tq : TypeId} (h : fn.results = #[.cell q tq, .tmp u]) (tmps : Array Value) (w : World) (g' : Nat) (t : TypeId) (cs : Array Value) (fr : Nat × Nat) (d : TypeDesc)
    (hq : tmps.getD q undef = .pointer (some ⟨g', 0, none⟩)) (hg : w.heap[g']? = some (.cells cs t fr))
    (hu : P.underlying tq = some d) (hd : (match d with | .struct _ | .array _ _ => true | _ => false) = true) (hi : (P.info? tq).map (·.size) = some cs.size)
    (x : Value) (hx : tmps.getD u undef = x) :
    (results fn tmps).run P w = .ok (.tuple #[.agg cs, x]) w := by
  have hq' : tmps[q]?.getD undef = .pointer (some ⟨g', 0, none⟩) := by simpa using hq
  have hx' : tmps[u]?.getD undef = x := by simpa using hx
  simp [results, h, hq', hx', asAddr, run_loadVar_row w g' t tq cs fr d hg hu hd hi]
end Go.Proofs.YtejjincnghmbbaaGreatDoor

/- proxy.Factor. -/
namespace Go.Proofs.YtejjincnghmbbaaGreatDoor
open Go.RowKit

theorem finv_any (a : Nat) (h0 : 0 < a) (ha : a < Chart.Q) (w : World) :
    Calls Tryz.prog 34 #[.int .i64 a] w fun e w' => e = two ((Chart.finv a : Nat) : Int) 0 ∧ Below w.heap.size w w' := by
  unfold Chart.finv
  exact finv_ok a h0 ha w

theorem factor_ok (x y : Nat) (hx0 : 0 < x) (hx : x < Chart.Q) (hy0 : 0 < y) (hy : y < Chart.Q) (w : World) :
    Calls Tryz.prog 12 #[.int .i64 x, .int .i64 y] w fun e w' => e = two ((Chart.factor x y : Nat) : Int) 0 ∧ Below w.heap.size w w' := by
  have hmf : ∀ (fn : Fn) (first cap : Array Value) (w : World), (Instr.makeFunc fn first cap).run Tryz.prog w = .ok (.func fn first cap) w := fun _ _ _ _ => rfl
  have hQ := Q_eq
  have C1 := Lib.hid (isPrivate_ok (x : Int) (by omega) (by omega))
  have C2 := Lib.hid (isPrivate_ok (y : Int) (by omega) (by omega))
  have C3 := Lib.hid (finv_any x hx0 hx)
  have C4 := Lib.hid (fmul_any y (Chart.finv x) hy (Chart.finv_lt x))
  obtain ⟨i, hi⟩ : ∃ i, i = Chart.finv x := ⟨_, rfl⟩
  obtain ⟨r, hr⟩ : ∃ r, r = Chart.factor x y := ⟨_, rfl⟩
  have e1 : y * Chart.finv x % Chart.Q = r := hr.symm
  rw [e1] at C4
  rw [← hi] at C3 C4
  rw [← hr]
  obtain ⟨w0, hw0⟩ : ∃ x, x = w.alloc (.cells #[.int .i64 0] 27) := ⟨_, rfl⟩
  have hR0 : RowIs w0 w.heap.size 27 [.int .i64 0] := by rw [hw0]; exact RowIs.new w [.int .i64 0] _
  have hB0 : Below w.heap.size w w0 := by rw [hw0]; exact (Below.refl _ w).alloc (Nat.le_refl _) _
  have HH := Lib.hid (And.intro hR0 hB0)
  clear e1 hi hr hQ hx0 hx hy0 hy hR0 hB0
  go_enter_defers Tryz.func12, Tryz.ntmps12
  go_upto_region 1 with fail
  rw [← hw0]
  clear hw0
  go_wp2_with fail
  refine (C1.out _).mono ?_
  rintro e w1 ⟨rfl, rfl⟩
  go_wp2_with fail
  refine (C2.out _).mono ?_
  rintro e w1 ⟨rfl, rfl⟩
  go_wp2_with fail
  refine (demand_ok _ _).mono ?_
  rintro e w1 ⟨rfl, rfl⟩
  go_wp2_with fail
  refine (C3.out _).mono ?_
  rintro e w1 ⟨rfl, hB1⟩
  go_wp2_with fail
  refine (must_ok _ _).mono ?_
  rintro e w2 ⟨rfl, rfl⟩
  go_wp2_with fail
  refine (C4.out _).mono ?_
  rintro e w3 ⟨rfl, hB3⟩
  go_wp2_with fail
  refine (must_ok _ _).mono ?_
  rintro e w4 ⟨rfl, rfl⟩
  have hR3 := (HH.out.1.below hB1 HH.out.1.lt).below hB3 (Nat.lt_of_lt_of_le HH.out.1.lt hB1.size)
  have hB := HH.out.2.trans ((hB1.mono HH.out.2.size).trans (hB3.mono (Nat.le_trans HH.out.2.size hB1.size)))
  have hc := (hR3.cell 0).trans (show _ = some (Value.int .i64 0) from rfl)
  have hf := hR3.frozen 0
  have H3 := Lib.hid (And.intro hR3 hB)
  clear hR3 hB hB1 hB3
  go_wp2_with fail
  refine leaves_cons (f := 40) (args := #[.pointer (some ⟨w.heap.size, 0, none⟩)]) (by simp) (by simp [go_sem]) ?_
  refine (factor1_idle w.heap.size _).mono ?_
  rintro e u' w4 ⟨rfl, rfl, rfl⟩
  exact ⟨_, results_tmp_cell rfl _ _ w.heap.size 0 _ (.int .i64 0) rfl rfl (isAgg_int .i64 (by kernel_rfl)) ((H3.out.1.set 0 _).cell 0), rfl, below_setCell H3.out.2 (Nat.le_refl _) _ _⟩

/-- A number that is no private key. -/
def NoKey (x : Int) : Prop := x < 1 ∨ 2305843009213688669 ≤ x
theorem key_or (x : Int) : NoKey x ∨ ∃ n : Nat, x = n ∧ 0 < n ∧ n < Chart.Q := by
  by_cases h : x < 1 ∨ 2305843009213688669 ≤ x
  · exact .inl h
  · refine .inr ⟨x.toNat, ?_, ?_, ?_⟩
    · omega
    · omega
    · rw [Q_eq]; omega

theorem factor_bad (x y : Int) (h : NoKey x ∨ NoKey y) (w : World) :
    Calls Tryz.prog 12 #[.int .i64 x, .int .i64 y] w fun e w' => e = two 0 50 ∧ Below w.heap.size w w' := by
  have hmf : ∀ (fn : Fn) (first cap : Array Value) (w : World), (Instr.makeFunc fn first cap).run Tryz.prog w = .ok (.func fn first cap) w := fun _ _ _ _ => rfl
  obtain ⟨w0, hw0⟩ : ∃ x, x = w.alloc (.cells #[.int .i64 0] 27) := ⟨_, rfl⟩
  have hR0 : RowIs w0 w.heap.size 27 [.int .i64 0] := by rw [hw0]; exact RowIs.new w [.int .i64 0] _
  have hB0 : Below w.heap.size w w0 := by rw [hw0]; exact (Below.refl _ w).alloc (Nat.le_refl _) _
  have hc := (hR0.cell 0).trans (show _ = some (Value.int .i64 0) from rfl)
  have hf := hR0.frozen 0
  have HH := Lib.hid (And.intro hR0 hB0)
  clear hR0 hB0
  by_cases h1 : NoKey x
  · have C1 := Lib.hid (isPrivate_bad x h1)
    clear h h1
    go_enter_defers Tryz.func12, Tryz.ntmps12
    go_upto_region 1 with fail
    rw [← hw0]
    clear hw0
    go_wp2_with fail
    refine (C1.out _).mono ?_
    rintro e w1 ⟨rfl, rfl⟩
    go_wp2_with fail
    refine (demand_bad _ _).mono ?_
    rintro e w1 ⟨rfl, rfl⟩
    go_wp2_with fail
    refine leaves_cons (f := 40) (args := #[.pointer (some ⟨w.heap.size, 0, none⟩)]) (by simp) (by simp [go_sem]) ?_
    refine (factor1_fail 50 0 w.heap.size [] _ hc hf).mono ?_
    rintro e u' w4 ⟨rfl, rfl, rfl⟩
    exact ⟨_, results_tmp_cell rfl _ _ w.heap.size 0 _ (.int .i64 50) rfl rfl (isAgg_int .i64 (by kernel_rfl)) (((HH.out.1.set 0 _).alloc _).cell 0), rfl, (below_setCell HH.out.2 (Nat.le_refl _) _ _).alloc (by simpa using HH.out.2.size) _⟩
  · have h2 : NoKey y := h.resolve_left h1
    have h1 : 1 ≤ x ∧ x < 2305843009213688669 := by unfold NoKey at h1; omega
    have C1 := Lib.hid (isPrivate_ok x h1.1 h1.2)
    have C2 := Lib.hid (isPrivate_bad y h2)
    clear h h1 h2
    go_enter_defers Tryz.func12, Tryz.ntmps12
    go_upto_region 1 with fail
    rw [← hw0]
    clear hw0
    go_wp2_with fail
    refine (C1.out _).mono ?_
    rintro e w1 ⟨rfl, rfl⟩
    go_wp2_with fail
    refine (C2.out _).mono ?_
    rintro e w1 ⟨rfl, rfl⟩
    go_wp2_with fail
    refine (demand_bad _ _).mono ?_
    rintro e w1 ⟨rfl, rfl⟩
    go_wp2_with fail
    refine leaves_cons (f := 40) (args := #[.pointer (some ⟨w.heap.size, 0, none⟩)]) (by simp) (by simp [go_sem]) ?_
    refine (factor1_fail 50 0 w.heap.size [] _ hc hf).mono ?_
    rintro e u' w4 ⟨rfl, rfl, rfl⟩
    exact ⟨_, results_tmp_cell rfl _ _ w.heap.size 0 _ (.int .i64 50) rfl rfl (isAgg_int .i64 (by kernel_rfl)) (((HH.out.1.set 0 _).alloc _).cell 0), rfl, (below_setCell HH.out.2 (Nat.le_refl _) _ _).alloc (by simpa using HH.out.2.size) _⟩
end Go.Proofs.YtejjincnghmbbaaGreatDoor
