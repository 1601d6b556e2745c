/- shamir.value: the value of the polynomial through shares. -/
import Derived.Deep.RegionWith
import Derived.Deep.QuietTactic
import Derived.Test.YtgklcfipgdbbgaaGreatDoorM7
import Derived.Test.YtgklcfipgdbbgaaGreatDoorM13
namespace Go.Proofs.YtgklcfipgdbbgaaGreatDoor
open Go.RowKit Go.Shelf
attribute [local go_sem] Oper.semAt_some

/-- What a round knows of its memory. -/
def VaI (w : World) (vl : Value) (low : Nat) (y : Chart.F) (W : World) : Prop :=
  (W.cell? ⟨w.heap.size, 0, none⟩ = some vl ∧ W.cell? ⟨w.heap.size + 1, 0, none⟩ = some (fv y) ∧ W.frozen? ⟨w.heap.size + 1, 0, none⟩ = false ∧ low ≤ W.heap.size) ∧ Below w.heap.size w W
theorem vaI_own {α : Type} (w : World) (vl : Value) (low : Nat) (h : w.heap.size ≤ low) (f : List α → Chart.F) : OwnFrom low (fun pre W => VaI w vl low (f pre) W) :=
  OwnFrom.and (Own.from (fun _ _ _ _ hs hg hr => ⟨cell_kept hs.1 hg hr, cell_kept hs.2.1 hg hr, (frozen_kept hs.2.1 hg hr).trans hs.2.2.1, Nat.le_trans hs.2.2.2 hg.size⟩) _) (ownFrom_below (Nat.le_refl _) h)

/-- The joined value round by round. -/
def valR (l : Chart.Sh) (x : Chart.F) {n : Nat} (pre : List (Fin n)) : Chart.F := pre.foldl (fun y i => y + Chart.basis Chart.inv (Chart.places l) i.val x * (l.getD i.val (0, 0)).2) 0
theorem valR_snoc (l : Chart.Sh) (x : Chart.F) {n : Nat} (pre : List (Fin n)) (i : Fin n) : valR l x (pre ++ [i]) = valR l x pre + Chart.basis Chart.inv (Chart.places l) i.val x * (l.getD i.val (0, 0)).2 := by unfold valR; rw [List.foldl_append]; rfl
theorem foldl_range (g : Nat → Chart.F) : ∀ n, (List.range n).foldl (fun y i => y + g i) 0 = Chart.sumI g n
  | 0 => rfl
  | n + 1 => by rw [List.range_succ, List.foldl_append, foldl_range g n]; rfl
theorem valR_all (l : Chart.Sh) (x : Chart.F) {n : Nat} (hn : n = l.length) : valR l x (List.finRange n) = Chart.val l x := by
  have e : valR l x (List.finRange n) = ((List.finRange n).map Fin.val).foldl (fun y i => y + Chart.basis Chart.inv (Chart.places l) i x * (l.getD i (0, 0)).2) 0 := by unfold valR; rw [List.foldl_map]
  have e2 : (List.finRange n).map Fin.val = List.range n := by
    apply List.ext_getElem
    · simp
    · intro i h1 h2; simp
  rw [e, e2, foldl_range, hn]
  rfl
theorem raw_fst (l : Chart.Sh) : (Chart.raw l).map Prod.fst = nums (Chart.places l) := by
  unfold Chart.raw nums Chart.places
  rw [List.map_map, List.map_map]
  rfl
theorem raw_at (l : Chart.Sh) (i : Nat) (h : i < (Chart.raw l).length) : (Chart.raw l)[i] = Chart.rawOf (l[i]'(by rw [Chart.raw_length] at h; exact h)) := List.getElem_map ..

set_option maxRecDepth 100000 in
set_option maxHeartbeats 2000000 in
theorem svalue_at (l : Chart.Sh) (x : Chart.F) (g off cap : Nat) (h1 : 1 ≤ l.length) (h2 : l.length ≤ 64) (w : World) (hS : SAt w g off (Chart.raw l)) (hg : g < w.heap.size) :
    Calls Tryz.prog 22 #[.slice (some ⟨g, off, none⟩) l.length cap, fv x] w fun e w' => e = .returned (fv (Chart.val l x)) ∧ Below w.heap.size w w' := by
  refine (callsIn_wide (n := 6)).1 ?_
  refine callsIn_of_wp_marks Tryz.func22 rfl trivial ?_ rfl
  simp only [Tryz.ntmps22, List.size_toArray, List.length_cons, List.length_nil, Nat.reduceAdd, Nat.reduceSub, Array.replicate_succ, Array.replicate_zero, List.push_toArray, List.append_toArray, List.nil_append, List.cons_append]
  obtain ⟨n, hn⟩ : ∃ n, n = l.length := ⟨_, rfl⟩
  obtain ⟨W2, hW2⟩ : ∃ W2, (w.alloc (.cells #[.slice (some ⟨g, off, none⟩) n cap] 22)).alloc (.cells #[.int .i64 0] 3) = W2 := ⟨_, rfl⟩
  have s2 : W2.heap.size = w.heap.size + 1 + 1 := by rw [← hW2]; simp
  have hB2 : Below w.heap.size w W2 := by
    rw [← hW2]
    exact ((Below.refl _ w).alloc (Nat.le_refl _) _).alloc (by simp) _
  have cl2 : W2.cell? ⟨w.heap.size, 0, none⟩ = some (.slice (some ⟨g, off, none⟩) n cap) := by rw [← hW2, cell_alloc _ (by simp), cell_new]; rfl
  have s1 : (w.alloc (.cells #[.slice (some ⟨g, off, none⟩) n cap] 22)).heap.size = w.heap.size + 1 := by simp
  have cy2 : W2.cell? ⟨w.heap.size + 1, 0, none⟩ = some (fv 0) := by rw [← hW2, ← s1, cell_new]; rfl
  have fy2 : W2.frozen? ⟨w.heap.size + 1, 0, none⟩ = false := by rw [← hW2, ← s1, frozen_new]
  have C1 := collect_at (Chart.raw l) g off cap (by rw [Chart.raw_length]; exact h1) (by rw [Chart.raw_length]; exact h2) W2 (hS.below hB2 hg) (by omega)
  rw [Chart.raw_length, raw_fst] at C1
  rw [← hn] at C1 ⊢
  replace C1 := Lib.hid C1
  have Hn := Lib.hid hn
  clear hn
  gi_wp2_with fail
  refine ⟨trivial, (callsIn_wide.2 C1.out).mono ?_⟩
  rintro e W3 ⟨v3, rfl, hO3, hB3⟩
  have hpl := Chart.places_length l
  obtain ⟨a3, cap3, rfl, hc3, hx3⟩ := hO3.view.shape
  obtain ⟨g3, off3, rfl, hg3, hi3⟩ := hx3 (by intro h0; have := congrArg List.length h0; rw [nums_length, hpl] at this; simp at this; rw [this] at h1; simp at h1)
  obtain rfl : off3 = 0 := by
    obtain ⟨_, ⟨h0, _⟩ | ⟨_, _, _, h0, _⟩⟩ := hO3
    · cases h0
    · cases h0; rfl
  have hg3l : W2.heap.size ≤ g3 := ownR_block hO3 g3 rfl
  have hsz3 := hB3.size
  have C2 := basis_any (some ⟨g3, 0, none⟩) (nums (Chart.places l)).length cap3 (x.val : Int) W3
  obtain ⟨W0, hW0⟩ : ∃ W0, (W3.alloc (.cells #[.slice (some ⟨g3, 0, none⟩) (nums (Chart.places l)).length cap3] 41)).alloc (.cells #[.int .i64 (x.val : Int)] 3) = W0 := ⟨_, rfl⟩
  rw [hW0] at C2
  have s0 : W0.heap.size = W3.heap.size + 1 + 1 := by rw [← hW0]; simp
  have cb0 : W0.cell? ⟨W3.heap.size, 0, none⟩ = some (.slice (some ⟨g3, 0, none⟩) (Chart.places l).length cap3) := by rw [← hW0, cell_alloc _ (by simp), cell_new, nums_length]; rfl
  have s4 : (W3.alloc (.cells #[.slice (some ⟨g3, 0, none⟩) (nums (Chart.places l)).length cap3] 41)).heap.size = W3.heap.size + 1 := by simp
  have cx0 : W0.cell? ⟨W3.heap.size + 1, 0, none⟩ = some (fv x) := by rw [← hW0, ← s4, cell_new]; rfl
  have hB30 : Below W3.heap.size W3 W0 := by
    rw [← hW0]
    exact ((Below.refl _ W3).alloc (Nat.le_refl _) _).alloc (by simp) _
  have hB20 : Below W2.heap.size W2 W0 := hB3.trans (hB30.mono hsz3)
  have hB0 : Below w.heap.size w W0 := hB2.trans (hB20.mono (by omega))
  have cl0 : W0.cell? ⟨w.heap.size, 0, none⟩ = some (.slice (some ⟨g, off, none⟩) n cap) := ((bcell hB20).1 _ _ (by omega)).trans cl2
  have cy0 : W0.cell? ⟨w.heap.size + 1, 0, none⟩ = some (fv 0) := ((bcell hB20).1 _ _ (by omega)).trans cy2
  have fy0 : W0.frozen? ⟨w.heap.size + 1, 0, none⟩ = false := ((bcell hB20).2 _ _ (by omega)).trans fy2
  have hi0 : IntsAt W0 g3 0 (nums (Chart.places l)) := fun i hi => by rw [(bcell hB30).1 g3 _ hg3]; exact hi3 i hi
  have hg0 : g3 < W0.heap.size := by omega
  have hsl : ∀ i, i < n → ∀ W, Below w.heap.size w W → W.cell? ⟨g, off + i * 2 + 1, none⟩ = some (fv (l.getD i (0, 0)).2) := by
    intro i hi W hB
    have hi' : i < l.length := by have := Hn.out; omega
    have h3 := ((hS.below hB hg) i (by rw [Chart.raw_length]; exact hi')).2
    rw [raw_at] at h3
    rw [h3, Chart.getD_at l hi']
    rfl
  have Hsl := Lib.hid hsl
  replace C2 := Lib.hid C2
  clear hS hsl hO3 hi3 cl2 cy2 fy2 hB3 hB30 hB20 hB2 s1 s4
  gi_wp2_with fail
  refine ⟨trivial, (callsIn_wide.2 C2.out).mono ?_⟩
  rintro e w' ⟨rfl, rfl⟩
  gi_wp2_with fail
  clear hW2 hW0 hx3 C1 C2
  refine wpIn_rangeFunc_ownF rfl (by omega) (gf := 66) (lb := #[.pointer (some ⟨W3.heap.size, 0, none⟩), .pointer (some ⟨W3.heap.size + 1, 0, none⟩)]) rfl trivial (enters_of Tryz.func66 (by kernel_rfl) rfl)
    (basis1_stops _ (by omega) W3.heap.size (W3.heap.size + 1) g3 cap3 (Chart.places l) x (by rw [hpl]; exact h2) W0 cb0 cx0 hi0 hg0) (fun h1 h2 => keep3_t h1 h2) (keep3_put (by omega) (by omega) (by omega)) (Below.refl _ _) (fun _ => rfl)
    (fun pre W => VaI w (.slice (some ⟨g, off, none⟩) n cap) (W3.heap.size + 1 + 1) (valR l x pre) W)
    (fun _ _ _ => False)
    (by rw [s0]; exact vaI_own w _ _ (by omega) _)
    (fun _ _ _ _ _ hs _ _ => hs)
    ⟨⟨cl0, cy0, fy0, by omega⟩, hB0⟩
    (fun i => { tmps := #[.slice (some ⟨g, off, none⟩) n cap, fv x, .pointer (some ⟨w.heap.size, 0, none⟩), undef, .pointer (some ⟨w.heap.size + 1, 0, none⟩), .int .i64 (i.val : Nat), fv (Chart.basis Chart.inv (Chart.places l) i.val x), undef, undef, .slice (some ⟨g, off, none⟩) n cap, .slice (some ⟨g3, 0, none⟩) (nums (Chart.places l)).length cap3, fv x, .func (.func 66) #[] #[.pointer (some ⟨W3.heap.size, 0, none⟩), .pointer (some ⟨W3.heap.size + 1, 0, none⟩)], .int .i64 (i.val : Nat), fv (Chart.basis Chart.inv (Chart.places l) i.val x), undef, undef, undef, undef, undef, undef, undef, undef, undef, undef, undef, undef, undef, undef, undef, undef, undef], defers := [] }) ?assign ?body ?done ?stop
  case assign =>
    intro l x W K hK
    gi_wp2
    exact hK
  case body =>
    rintro lp pre ⟨i, hi⟩ W hI _
    have hsn := valR_snoc l x pre ⟨i, hi⟩
    have hin : i < n := by rw [hpl] at hi; have := Hn.out; omega
    generalize valR l x pre = y at *
    obtain ⟨⟨hcl, hcy, hfy, hsz⟩, hB⟩ := hI
    have hcs := Hsl.out i hin W hB
    have hi64 : (i : Int) < (n : Int) := by omega
    dsimp only at hsn ⊢
    generalize Chart.basis Chart.inv (Chart.places l) i x = b at *
    generalize (l.getD i (0, 0)).2 = z at *
    have C1 := Lib.hid (fmulF b z W)
    have C2 := Lib.hid (faddF y (b * z))
    obtain ⟨p1, hp1⟩ : ∃ p1, p1 = b * z := ⟨_, rfl⟩
    obtain ⟨p2, hp2⟩ : ∃ p2, p2 = y + b * z := ⟨_, rfl⟩
    rw [← hp1] at C1
    rw [← hp2, ← hp1] at C2
    rw [← hp2] at hsn
    have Hsn := Lib.hid hsn
    have HB := Lib.hid hB
    have h3 : Hid (g3 < W.heap.size) := Lib.hid (by omega)
    clear hsn hp1 hp2 hB hpl
    gi_wp2_with fail
    refine ⟨trivial, CallsIn.mono (CallsIn.inRound lp (callsIn_wide.2 C1.out)) ?_⟩
    rintro e W1 ⟨rfl, hB1⟩
    obtain ⟨bc1, bf1⟩ := bcell hB1
    have h1c : W1.cell? ⟨w.heap.size + 1, 0, none⟩ = some (fv y) := (bc1 _ _ (by omega)).trans hcy
    gi_wp2_with fail
    refine ⟨trivial, CallsIn.mono (CallsIn.inRound lp (callsIn_wide.2 (C2.out W1))) ?_⟩
    rintro e W4 ⟨rfl, hB4⟩
    have hB14 := hB1.trans (hB4.mono hB1.size)
    obtain ⟨bc4, bf4⟩ := bcell hB14
    have h4l : W4.cell? ⟨w.heap.size, 0, none⟩ = some (.slice (some ⟨g, off, none⟩) n cap) := (bc4 _ _ (by omega)).trans hcl
    have h4y : W4.cell? ⟨w.heap.size + 1, 0, none⟩ = some (fv y) := (bc4 _ _ (by omega)).trans hcy
    have h4f : W4.frozen? ⟨w.heap.size + 1, 0, none⟩ = false := (bf4 _ _ (by omega)).trans hfy
    have hs4 := hB14.size
    have HB4 := Lib.hid (HB.out.trans (hB14.mono (by omega)))
    have hk4 : Keep3 W3.heap.size (W3.heap.size + 1) g3 W W4 := keep3_below hB14 (by omega) (by omega) h3.out
    have ho4 : KeepsOthers W W4 := keepsOthers_below hB14
    have Hk := Lib.hid (And.intro hk4 ho4)
    clear bc1 bf1 bc4 bf4 hk4 ho4 hB1 hB4 hB14
    gi_wp2_with fail
    refine ⟨Hk.out.2.trans (KeepsOthers.setCell _ _ _), keep3_t Hk.out.1 (keep3_set (show W3.heap.size ≠ w.heap.size + 1 by omega) (show W3.heap.size + 1 ≠ w.heap.size + 1 by omega) (show g3 ≠ w.heap.size + 1 by omega) _), ⟨?_, ?_, ?_, ?_⟩, below_setCell HB4.out (Nat.le_succ _) _ _⟩
    · rw [cell_set_other (by omega)]; exact h4l
    · rw [Hsn.out]
      exact cell_set_same _ _ _ _ h4y
    · rw [frozen_set]; exact h4f
    · simp; omega
  case done =>
    rintro D ys W hD rfl ⟨⟨hcl, hcy, hfy, hsz⟩, hB⟩ hK
    gi_wp2_with fail
    obtain ⟨y, hy⟩ : ∃ y, y = valR l x (List.finRange (Chart.places l).length) := ⟨_, rfl⟩
    rw [← hy] at hcy ⊢
    obtain ⟨W', hW'⟩ : ∃ W', W' = W.setCell ⟨w.heap.size + 1, 0, none⟩ (fv y) := ⟨_, rfl⟩
    rw [← hW']
    have hK' : W'.heap[D]? = some (.deferred (some [])) := by rw [hW']; exact (Below.heap_setCell _ _ _ _ (show D ≠ w.heap.size + 1 by omega)).trans hK
    have hy' : W'.cell? ⟨w.heap.size + 1, 0, none⟩ = some (fv y) := by rw [hW']; exact cell_set_same _ _ _ _ hcy
    have hy2 : (W'.putObj D (.deferred none)).cell? ⟨w.heap.size + 1, 0, none⟩ = some (fv y) := (World.cell?_of_block (a := ⟨w.heap.size + 1, 0, none⟩) (World.putObj_heap_other (fun e => by have e' : w.heap.size + 1 = D := e; omega))).trans hy'
    have hB' : Below w.heap.size w W' := by rw [hW']; exact below_setCell hB (Nat.le_succ _) _ _
    refine ⟨by simp, .inl ⟨_, _, rfl, run_takeDeferred hK', ?_⟩⟩
    refine ⟨_, results_cell_one rfl _ _ (w.heap.size + 1) 0 _ rfl (isAgg_int .i64 (by kernel_rfl)) hy2, ?_, hB'.trans (belowK_b (w := w) (Nat.le_refl _) W' D _ _ (by omega) hK' rfl rfl)⟩
    rw [hy, valR_all l x hpl]
  case stop =>
    rintro D c pre W _ _ h _
    exact h.elim
end Go.Proofs.YtgklcfipgdbbgaaGreatDoor

/- shamir.Join, Fits. -/
namespace Go.Proofs.YtgklcfipgdbbgaaGreatDoor
open Go.RowKit

theorem svalue_sv (l : Chart.Sh) (x : Chart.F) (v : Value) (h1 : 1 ≤ l.length) (h2 : l.length ≤ 64) (w : World) (hS : Sv w.heap.size w v (Chart.raw l)) :
    Calls Tryz.prog 22 #[v, fv x] w fun e w' => e = .returned (fv (Chart.val l x)) ∧ Below w.heap.size w w' := by
  obtain ⟨a, cap, rfl, hc, hx⟩ := hS.shape
  obtain ⟨g, off, rfl, hg, hS⟩ := hx (by intro h0; have := congrArg List.length h0; rw [Chart.raw_length] at this; rw [this] at h1; simp at h1)
  rw [Chart.raw_length]
  exact svalue_at l x g off cap h1 h2 w hS hg

theorem shErr_ok {l : Chart.Rs} (h : Chart.okS l = true) : shErr l = 0 := by unfold shErr; rw [h]; rfl
theorem shErr_bad {l : Chart.Rs} (h : Chart.okS l = false) : shErr l = 80 := by unfold shErr; rw [h]; rfl

theorem join_ok (l : Chart.Sh) (h : Chart.okS (Chart.raw l) = true) (v : Value) (w : World) (hS : Sv w.heap.size w v (Chart.raw l)) :
    Calls Tryz.prog 8 #[v] w fun e w' => e = two ((Chart.val l 0).val : Nat) 0 ∧ Below w.heap.size w w' := by
  have hG := Chart.good h
  obtain ⟨a, cap, hv, -, -⟩ := hS.shape
  have C1 := scheck_any v (Chart.raw l) w hS
  rw [shErr_ok h] at C1
  have C2 := fun w1 (hb : Below w.heap.size w w1) => svalue_sv l 0 v hG.pos hG.few w1 ((hS.below hb).mono hb.size)
  obtain ⟨z, hz⟩ : ∃ z, z = (Chart.val l 0).val := ⟨_, rfl⟩
  rw [← hz]
  have C2' : Hid (∀ w1, Below w.heap.size w w1 → Calls Tryz.prog 22 #[v, .int .i64 0] w1 fun e w' => e = .returned (.int .i64 (z : Nat)) ∧ Below w1.heap.size w1 w') := by
    rw [hz]
    exact Lib.hid C2
  replace C1 := Lib.hid C1
  subst hv
  clear C2 hz hG hS h
  go_enter Tryz.func8, Tryz.ntmps8
  go_wp2_with fail
  refine C1.out.mono ?_
  rintro e w1 ⟨rfl, hB1⟩
  have H1 := Lib.hid hB1
  clear hB1
  go_wp2_with fail
  refine (C2'.out w1 H1.out).mono ?_
  rintro e w2 ⟨rfl, hB2⟩
  have H2 := Lib.hid (H1.out.trans (hB2.mono H1.out.size))
  clear hB2
  go_wp2_with fail
  go_ret2
  exact ⟨rfl, H2.out⟩
theorem join_bad (l : Chart.Rs) (h : Chart.okS l = false) (v : Value) (w : World) (hS : Sv w.heap.size w v l) :
    Calls Tryz.prog 8 #[v] w fun e w' => e = two 0 80 ∧ Below w.heap.size w w' := by
  obtain ⟨a, cap, hv, -, -⟩ := hS.shape
  have C1 := scheck_any v l w hS
  rw [shErr_bad h] at C1
  replace C1 := Lib.hid C1
  subst hv
  clear hS h
  go_enter Tryz.func8, Tryz.ntmps8
  go_wp2_with fail
  refine C1.out.mono ?_
  rintro e w1 ⟨rfl, hB1⟩
  have H1 := Lib.hid hB1
  clear hB1
  go_wp2_with fail
  go_ret2
  exact ⟨rfl, H1.out⟩

set_option maxHeartbeats 2000000 in
/-- The closure of Fits. -/
theorem fits1_any (l : Chart.Sh) (s : Chart.F × Chart.F) (A : Nat) (v : Value) (h1 : 1 ≤ l.length) (h2 : l.length ≤ 64) (w : World) (hA : w.cell? ⟨A, 0, none⟩ = some v) (hS : Sv w.heap.size w v (Chart.raw l)) :
    Calls Tryz.prog 25 #[.agg #[fv s.1, fv s.2], .pointer (some ⟨A, 0, none⟩)] w fun e w' => e = .returned (.bool (Chart.val l s.1 != s.2)) ∧ Below w.heap.size w w' := by
  obtain ⟨a, cap, hv, -, -⟩ := hS.shape
  obtain ⟨n, hn⟩ : ∃ n, n = (Chart.raw l).length := ⟨_, rfl⟩
  rw [← hn] at hv
  clear hn
  obtain ⟨p, y⟩ := s
  dsimp only
  obtain ⟨w1, hw1⟩ : ∃ x, x = w.alloc (.cells #[fv p, fv y] 36) := ⟨_, rfl⟩
  have hB1 : Below w.heap.size w w1 := by rw [hw1]; exact (Below.refl _ _).alloc (Nat.le_refl _) _
  have hAl := cell_lt hA
  have hR : RowIs w1 w.heap.size 36 [fv p, fv y] := by rw [hw1]; exact RowIs.new w _ _
  have C := Lib.hid (fun w2 (hb : Below w.heap.size w w2) => svalue_sv l p v h1 h2 w2 ((hS.below hb).mono hb.size))
  have hA1 : w1.cell? ⟨A, 0, none⟩ = some v := ((bcell hB1).1 _ _ hAl).trans hA
  have hBd : Below w.heap.size w w1.drew := hB1.trans ((drew_below w1).mono hB1.size)
  obtain ⟨z, hz⟩ : ∃ z, z = Chart.val l p := ⟨_, rfl⟩
  rw [← hz] at C ⊢
  have k0 : w1.cell? ⟨w.heap.size, 0, none⟩ = some (fv p) := hR.cell 0
  have k1 : w1.cell? ⟨w.heap.size, 1, none⟩ = some (fv y) := hR.cell 1
  have hev : (((z.val : Int) != (y.val : Int)) = (z != y)) := by
    rw [Bool.eq_iff_iff, bne_iff_ne, bne_iff_ne]
    refine ⟨fun h1 h2 => h1 (by rw [h2]), fun h1 h2 => h1 (Fin.ext (by omega))⟩
  have Hev := Lib.hid hev
  have HB := Lib.hid (And.intro hBd (And.intro hB1 hR))
  subst hv
  clear hS hA hz hev hBd hB1 hR h1 h2
  go_enter Tryz.func25, Tryz.ntmps25
  go_upto_region 1 with fail
  rw [← hw1]
  clear hw1
  go_region_with
    (go_at_call 22
     refine (C.out w1.drew HB.out.1).mono ?_
     rintro e w2 ⟨rfl, hB2⟩
     have q1 : w2.cell? ⟨w.heap.size, 1, none⟩ = some (fv y) := (HB.out.2.2.below ((drew_below w1).trans hB2) HB.out.2.2.lt).cell 1
     have H2 := Lib.hid (HB.out.1.trans (hB2.mono HB.out.1.size))
     clear hB2)
  all_goals
    go_wp2_with fail
    go_ret
    exact ⟨by rw [← Hev.out]; rfl, H2.out⟩
end Go.Proofs.YtgklcfipgdbbgaaGreatDoor

/- shamir.Fits. -/
namespace Go.Proofs.YtgklcfipgdbbgaaGreatDoor
open Go.RowKit

/-- What the closure says of a share. -/
def offB (l : Chart.Sh) (s : Chart.F × Chart.F) : Bool := Chart.val l s.1 != s.2

/-- slices.IndexFunc with the closure of Fits: a number that is not negative just if one of the shares is off. -/
def SIdx (l m : Chart.Sh) (w : World) (e : Ending) (w' : World) : Prop := ∃ n : Int, (0 ≤ n ↔ m.any (offB l) = true) ∧ e = .returned (.int .i64 n) ∧ Below w.heap.size w w'

set_option maxRecDepth 20000 in
theorem sindex_any (l m : Chart.Sh) (A : Nat) (v : Value) (h1 : 1 ≤ l.length) (h2 : l.length ≤ 64) (hm : m.length ≤ 64) (a0 : Option Addr) (cap : Nat) (w : World) (hA : w.cell? ⟨A, 0, none⟩ = some v) (hS : Sv w.heap.size w v (Chart.raw l))
    (hx : m ≠ [] → ∃ g off, a0 = some ⟨g, off, none⟩ ∧ g < w.heap.size ∧ SAt w g off (Chart.raw m)) :
    Calls Tryz.prog 50 #[.slice a0 m.length cap, .func (.func 25) #[] #[.pointer (some ⟨A, 0, none⟩)]] w (SIdx l m w) := by
  obtain ⟨n, hn⟩ : ∃ n, n = m.length := ⟨_, rfl⟩
  rw [← hn] at hm ⊢
  have hAl := cell_lt hA
  have C := Lib.hid (fun (s : Chart.F × Chart.F) w1 (hb : Below w.heap.size w w1) => fits1_any l s A v h1 h2 w1 (((bcell hb).1 _ _ hAl).trans hA) ((hS.below hb).mono hb.size))
  have H := Lib.hid (And.intro hn hx)
  clear hA hS hAl hx hn
  go_enter Tryz.func50, Tryz.ntmps50
  go_wp2_with fail
  go_loopw [8] (fun i wr => ∃ k : Nat, k ≤ n ∧ i = .int .i64 k ∧ Hid ((m.take k).any (offB l) = false ∧ Below w.heap.size w wr)) (fun i _ => n - (intOf i).toNat)
  case atStart => exact ⟨0, Nat.zero_le _, rfl, Lib.hid ⟨by simp, Below.refl _ _⟩⟩
  case round =>
    obtain ⟨k, hk, rfl, hF⟩ := hrel
    by_cases hlt : k < n
    · have hkm : k < m.length := by have := H.out.1; omega
      obtain ⟨g, off, ha0, hg, hS⟩ := H.out.2 (by intro h0; rw [h0] at hkm; simp at hkm)
      have hc := (hS.below hF.out.2 hg) k (by rw [Chart.raw_length]; exact hkm)
      rw [raw_at] at hc
      obtain ⟨s, hs⟩ : ∃ s, s = m[k] := ⟨_, rfl⟩
      have hd := List.take_succ_eq_append_getElem (l := m) (i := k) hkm
      rw [← hs] at hc hd
      obtain ⟨k0, k1⟩ := hc
      have k0' : wr.cell? ⟨g, off + k * 2, none⟩ = some (fv s.1) := k0
      have k1' : wr.cell? ⟨g, off + k * 2 + 1, none⟩ = some (fv s.2) := k1
      have C1 := Lib.hid (C.out s wr hF.out.2)
      have hoff : Hid (offB l s = (Chart.val l s.1 != s.2)) := Lib.hid rfl
      obtain ⟨o, ho⟩ : ∃ o, o = (Chart.val l s.1 != s.2) := ⟨_, rfl⟩
      rw [← ho] at C1 hoff
      have HD := Lib.hid (And.intro hd (hs ▸ List.getElem_mem hkm : s ∈ m))
      have hi : (0 : Int) ≤ k ∧ (k : Int) < (n : Int) := by omega
      subst ha0
      clear k0 k1 hd hs ho hS
      cases o
      · go_wp2_with fail
        refine C1.out.mono ?_
        rintro e w2 ⟨rfl, hB2⟩
        have HB := Lib.hid (hF.out.2.trans (hB2.mono hF.out.2.size))
        clear hB2
        go_wp2_with fail
        refine ⟨⟨k + 1, by omega, by go_num, Lib.hid ⟨?_, HB.out⟩⟩, by simp [intOf]; omega⟩
        rw [HD.out.1, List.any_append, hF.out.1]
        simp [hoff.out]
      · go_wp2_with fail
        refine C1.out.mono ?_
        rintro e w2 ⟨rfl, hB2⟩
        have HB := Lib.hid (hF.out.2.trans (hB2.mono hF.out.2.size))
        clear hB2
        go_wp2_with fail
        go_ret
        refine ⟨k, ?_, rfl, HB.out⟩
        constructor
        · intro _
          rw [List.any_eq_true]
          exact ⟨s, HD.out.2, hoff.out⟩
        · intro _; omega
    · go_wp2_with fail
      go_ret
      refine ⟨-1, ?_, rfl, hF.out.2⟩
      have e : m.take k = m := List.take_of_length_le (by have := H.out.1; omega)
      have := hF.out.1
      rw [e] at this
      rw [this]
      simp

theorem scontains_any (l m : Chart.Sh) (A : Nat) (v : Value) (h1 : 1 ≤ l.length) (h2 : l.length ≤ 64) (hm : m.length ≤ 64) (a0 : Option Addr) (cap : Nat) (w : World) (hA : w.cell? ⟨A, 0, none⟩ = some v) (hS : Sv w.heap.size w v (Chart.raw l))
    (hx : m ≠ [] → ∃ g off, a0 = some ⟨g, off, none⟩ ∧ g < w.heap.size ∧ SAt w g off (Chart.raw m)) :
    Calls Tryz.prog 24 #[.slice a0 m.length cap, .func (.func 25) #[] #[.pointer (some ⟨A, 0, none⟩)]] w fun e w' => e = .returned (.bool (m.any (offB l))) ∧ Below w.heap.size w w' := by
  have C := sindex_any l m A v h1 h2 hm a0 cap w hA hS hx
  obtain ⟨n, hn⟩ : ∃ n, n = m.length := ⟨_, rfl⟩
  rw [← hn] at C ⊢
  replace C := Lib.hid C
  clear hA hS hx hn hm
  go_enter Tryz.func24, Tryz.ntmps24
  go_wp2_with fail
  refine C.out.mono ?_
  rintro e w' ⟨k, hk, rfl, hB⟩
  have H := Lib.hid (And.intro hk hB); clear hk hB
  by_cases h : 0 ≤ k
  · have hfin := Lib.hid (H.out.1.1 h)
    go_wp2
    go_ret
    exact ⟨by rw [hfin.out]; rfl, H.out.2⟩
  · have hfin : m.any (offB l) = false := by
      rw [Bool.eq_false_iff]; intro hc; exact h (H.out.1.2 hc)
    have hfin' := Lib.hid hfin; clear hfin
    go_wp2
    go_ret
    exact ⟨by rw [hfin'.out]; simp; omega, H.out.2⟩

theorem SAt.take {w : World} {g off : Nat} {l : Chart.Rs} (h : SAt w g off l) (k : Nat) : SAt w g off (l.take k) := fun i hi => by
  rw [List.getElem_take]
  exact h i (by rw [List.length_take] at hi; omega)
theorem SAt.drop {w : World} {g off : Nat} {l : Chart.Rs} (h : SAt w g off l) (k : Nat) : SAt w g (off + k * 2) (l.drop k) := fun i hi => by
  rw [List.getElem_drop, show off + k * 2 + i * 2 = off + (k + i) * 2 by omega]
  exact h (k + i) (by rw [List.length_drop] at hi; omega)
abbrev twoB (b : Bool) (e : Int) : Ending := .returned (.tuple #[.bool b, .int .i64 e])
theorem fits_any_off (l : Chart.Sh) (n : Nat) : Chart.fits l n = !((l.drop n).any (offB (l.take n))) := by
  unfold Chart.fits offB
  rw [Bool.eq_iff_iff]
  simp

theorem fits_bad (l : Chart.Rs) (h : Chart.okS l = false) (need : Int) (v : Value) (w : World) (hS : Sv w.heap.size w v l) :
    Calls Tryz.prog 13 #[v, .int .i64 need] w fun e w' => e = twoB false 80 ∧ Below w.heap.size w w' := by
  obtain ⟨a, cap, hv, -, -⟩ := hS.shape
  have C1 := scheck_any v l w hS
  rw [shErr_bad h] at C1
  replace C1 := Lib.hid C1
  subst hv
  clear hS h
  go_enter Tryz.func13, Tryz.ntmps13
  go_wp2_with fail
  refine C1.out.mono ?_
  rintro e w1 ⟨rfl, hB1⟩
  have H1 := Lib.hid hB1
  clear hB1
  go_wp2_with fail
  go_ret2
  exact ⟨rfl, H1.out⟩
theorem fits_arg (l : Chart.Rs) (h : Chart.okS l = true) (need : Int) (hn : need < 1 ∨ 64 < need) (v : Value) (w : World) (hS : Sv w.heap.size w v l) :
    Calls Tryz.prog 13 #[v, .int .i64 need] w fun e w' => e = twoB false 1 ∧ Below w.heap.size w w' := by
  obtain ⟨a, cap, hv, -, -⟩ := hS.shape
  have C1 := scheck_any v l w hS
  rw [shErr_ok h] at C1
  replace C1 := Lib.hid C1
  subst hv
  clear hS h
  by_cases b1 : need < 1
  · clear hn
    go_enter Tryz.func13, Tryz.ntmps13
    go_wp2_with fail
    refine C1.out.mono ?_
    rintro e w1 ⟨rfl, hB1⟩
    have H1 := Lib.hid hB1
    clear hB1
    go_wp2_with fail
    go_ret2
    exact ⟨rfl, H1.out⟩
  · have b2 : 64 < need := by omega
    clear hn
    go_enter Tryz.func13, Tryz.ntmps13
    go_wp2_with fail
    refine C1.out.mono ?_
    rintro e w1 ⟨rfl, hB1⟩
    have H1 := Lib.hid hB1
    clear hB1
    go_wp2_with fail
    go_ret2
    exact ⟨rfl, H1.out⟩

/-- The call of ContainsFunc in Fits. -/
theorem fits_call (l : Chart.Sh) (need m : Nat) (hm : m = min need l.length) (m1 : 1 ≤ m) (hl : l.length ≤ 64) (g off cap A : Nat) (hcap : l.length ≤ cap) (w : World) (hA : w.cell? ⟨A, 0, none⟩ = some (.slice (some ⟨g, off, none⟩) m cap)) (hg : g < w.heap.size) (hAt : SAt w g off (Chart.raw l))
    (a0 : Option Addr) (c0 : Nat) (h0 : l.length - m ≠ 0 → a0 = some ⟨g, off + m * 2, none⟩) :
    Calls Tryz.prog 24 #[.slice a0 (l.length - m) c0, .func (.func 25) #[] #[.pointer (some ⟨A, 0, none⟩)]] w fun e w' => e = .returned (.bool (!Chart.fits l need)) ∧ Below w.heap.size w w' := by
  have hlt : (l.take m).length = m := by rw [List.length_take]; omega
  have hld : (l.drop m).length = l.length - m := by rw [List.length_drop]
  have hSt : Sv w.heap.size w (.slice (some ⟨g, off, none⟩) m cap) (Chart.raw (l.take m)) := by
    have := (hAt.take m).view (cap := cap) (by rw [Chart.raw_take, Chart.raw_length, hlt]; omega) hg
    rw [Chart.raw_take, Chart.raw_length, hlt] at this
    exact this
  have efit : (!Chart.fits l need) = (l.drop m).any (offB (l.take m)) := by
    rw [fits_any_off, Bool.not_not]
    by_cases hc : need ≤ l.length
    · rw [Nat.min_eq_left hc] at hm
      rw [hm]
    · have e1 : l.drop need = [] := List.drop_eq_nil_of_le (by omega)
      have e2 : l.drop m = [] := List.drop_eq_nil_of_le (by omega)
      rw [e1, e2, List.any_nil, List.any_nil]
  rw [efit, ← hld]
  refine scontains_any (l.take m) (l.drop m) A _ (by omega) (by omega) (by omega) a0 c0 w hA hSt (fun hne => ?_)
  have hn0 : l.length - m ≠ 0 := fun h1 => hne (List.eq_nil_of_length_eq_zero (by rw [hld]; exact h1))
  exact ⟨g, _, h0 hn0, hg, by rw [← Chart.raw_drop]; exact hAt.drop m⟩

set_option maxRecDepth 20000 in
theorem fits_ok (l : Chart.Sh) (h : Chart.okS (Chart.raw l) = true) (need : Nat) (n1 : 1 ≤ need) (n2 : need ≤ 64) (v : Value) (w : World) (hS : Sv w.heap.size w v (Chart.raw l)) :
    Calls Tryz.prog 13 #[v, .int .i64 (need : Nat)] w fun e w' => e = twoB (Chart.fits l need) 0 ∧ Below w.heap.size w w' := by
  have hG := Chart.good h
  have hg1 := hG.pos
  have hg2 := hG.few
  have C1 := scheck_any v (Chart.raw l) w hS
  rw [shErr_ok h] at C1
  obtain ⟨a, cap, hv, hcap, hx⟩ := hS.shape
  obtain ⟨g, off, rfl, hg, hAt⟩ := hx (by intro h0; have := congrArg List.length h0; rw [Chart.raw_length] at this; rw [this] at hg1; simp at hg1)
  rw [Chart.raw_length] at hv hcap
  obtain ⟨m, hm⟩ : ∃ m, m = min need l.length := ⟨_, rfl⟩
  have CC := fits_call l need m hm (by omega) hg2 g off cap
  obtain ⟨b, hb⟩ : ∃ b, b = !Chart.fits l need := ⟨_, rfl⟩
  have hfit : Chart.fits l need = !b := by rw [hb, Bool.not_not]
  rw [← hb] at CC
  rw [hfit]
  obtain ⟨n, hn⟩ : ∃ n, n = l.length := ⟨_, rfl⟩
  rw [← hn] at hg1 hg2 hv hcap hm CC
  have hmn : m ≤ n := by omega
  have hm1 : 1 ≤ m := by omega
  have emin : min (need : Int) (n : Int) = (m : Int) := by omega
  subst hv
  replace C1 := Lib.hid C1
  have H := Lib.hid (And.intro hcap (And.intro hAt hg))
  have HC := Lib.hid CC
  clear hS hx hG h hn hm hAt hg hfit hb CC
  go_enter Tryz.func13, Tryz.ntmps13
  go_wp2_with fail
  refine C1.out.mono ?_
  rintro e w1 ⟨rfl, hB1⟩
  obtain ⟨w2, hw2⟩ : ∃ x, x = w1.alloc (.cells #[.slice (some ⟨g, off, none⟩) m cap] 22) := ⟨_, rfl⟩
  have hB2 : Below w1.heap.size w1 w2 := by rw [hw2]; exact (Below.refl _ _).alloc (Nat.le_refl _) _
  have hB02 := hB1.trans (hB2.mono hB1.size)
  have hA2 : w2.cell? ⟨w1.heap.size, 0, none⟩ = some (.slice (some ⟨g, off, none⟩) m cap) := by rw [hw2, cell_new]; rfl
  have C2 := Lib.hid (HC.out w1.heap.size H.out.1 w2 hA2 (Nat.lt_of_lt_of_le H.out.2.2 hB02.size) (H.out.2.1.below hB02 H.out.2.2))
  have H2 := Lib.hid hB02
  clear hB1 hB2 hB02 hA2 C1
  by_cases hcm : cap = m
  · have C3 := Lib.hid (C2.out (some ⟨g, off, none⟩) 0 (fun h0 => absurd (show n - m = 0 by omega) h0))
    rw [show n - m = 0 by omega] at C3
    subst hcm
    go_wp2_with fail
    rw [← hw2]
    clear hw2
    refine C3.out.mono ?_
    rintro e w3 ⟨rfl, hB3⟩
    have H3 := Lib.hid (H2.out.trans (hB3.mono H2.out.size))
    clear hB3
    go_wp2_with fail
    go_ret2
    exact ⟨rfl, H3.out⟩
  · have C3 := Lib.hid (C2.out (some ⟨g, off + m * 2, none⟩) (cap - m) (fun _ => rfl))
    go_wp2_with fail
    rw [← hw2]
    clear hw2
    refine C3.out.mono ?_
    rintro e w3 ⟨rfl, hB3⟩
    have H3 := Lib.hid (H2.out.trans (hB3.mono H2.out.size))
    clear hB3
    go_wp2_with fail
    go_ret2
    exact ⟨rfl, H3.out⟩
end Go.Proofs.YtgklcfipgdbbgaaGreatDoor

/- slices.Equal of whole numbers; shamir.Sum. -/
namespace Go.Proofs.YtgklcfipgdbbgaaGreatDoor
open Go.RowKit
attribute [-go_sem] Builtin.append_

theorem eqI_beq (a b : Int) : (a != b) = !(a == b) := rfl
theorem takes_ne {l m : List Int} {k : Nat} (hl : k < l.length) (hm : k < m.length) (h : l[k] ≠ m[k]) : (l == m) = false := by
  rw [beq_eq_false_iff_ne]
  intro he
  subst he
  exact h rfl
theorem takes_eq {l m : List Int} (hl : l.length = m.length) (h : l.take l.length = m.take l.length) : (l == m) = true := by
  rw [beq_iff_eq]
  rw [List.take_length, hl, List.take_length] at h
  exact h

set_option maxRecDepth 20000 in
theorem equal_any (l m : List Int) (h1 : 1 ≤ l.length) (h2 : 1 ≤ m.length) (h3 : l.length ≤ 64) (h4 : m.length ≤ 64) (v x : Value) (w : World) (hl : Iv w.heap.size w v l) (hm : Iv w.heap.size w x m) :
    Calls Tryz.prog 26 #[v, x] w fun e w' => e = .returned (.bool (l == m)) ∧ Below w.heap.size w w' := by
  obtain ⟨a, cap, rfl, hc, hx⟩ := hl.shape
  obtain ⟨g, off, rfl, hg, hli⟩ := hx (by intro h0; rw [h0] at h1; simp at h1)
  obtain ⟨a', cap', rfl, hc', hx'⟩ := hm.shape
  obtain ⟨g', off', rfl, hg', hmi⟩ := hx' (by intro h0; rw [h0] at h2; simp at h2)
  obtain ⟨n, hn⟩ : ∃ n, n = l.length := ⟨_, rfl⟩
  obtain ⟨k, hk⟩ : ∃ k, k = m.length := ⟨_, rfl⟩
  rw [← hn] at h1 h3 ⊢
  rw [← hk] at h2 h4 ⊢
  obtain ⟨r, hr⟩ : ∃ r, r = (l == m) := ⟨_, rfl⟩
  rw [← hr]
  have H := Lib.hid (And.intro hn (And.intro hk (And.intro hr (And.intro hli hmi))))
  clear hn hk hr hli hmi hx hx' hl hm hc hc'
  by_cases hnk : n = k
  · subst hnk
    go_enter Tryz.func26, Tryz.ntmps26
    go_wp2_with fail
    go_loopw [13] (fun i wr => ∃ t : Nat, t ≤ n ∧ i = .int .i64 t ∧ Hid (l.take t = m.take t ∧ Below w.heap.size w wr)) (fun i _ => n - (intOf i).toNat)
    case atStart => exact ⟨0, Nat.zero_le _, rfl, Lib.hid ⟨by simp, Below.refl _ _⟩⟩
    case round =>
      obtain ⟨t, ht, rfl, hF⟩ := hrel
      by_cases hlt : t < n
      · have htl : t < l.length := by have := H.out.1; omega
        have htm : t < m.length := by have := H.out.2.1; omega
        have c1 : wr.cell? ⟨g, off + t, none⟩ = some (.int .i64 l[t]) := by rw [(bcell hF.out.2).1 g _ hg]; exact H.out.2.2.2.1 t htl
        have c2 : wr.cell? ⟨g', off' + t, none⟩ = some (.int .i64 m[t]) := by rw [(bcell hF.out.2).1 g' _ hg']; exact H.out.2.2.2.2 t htm
        have e1 := List.take_succ_eq_append_getElem (l := l) (i := t) htl
        have e2 := List.take_succ_eq_append_getElem (l := m) (i := t) htm
        have hne := fun h => takes_ne htl htm h
        generalize l[t] = y at *
        generalize m[t] = z at *
        have HE := Lib.hid (And.intro e1 (And.intro e2 hne))
        clear e1 e2 hne
        by_cases hyz : y = z
        · subst hyz
          go_wp2_with fail
          go_quiet (fail)
          go_wp2_with fail
          refine ⟨⟨t + 1, by omega, by go_num, Lib.hid ⟨?_, hF.out.2.trans (Below.of_drewN _ _ _)⟩⟩, by simp [intOf]; omega⟩
          rw [HE.out.1, HE.out.2.1, hF.out.1]
        · have hb : (y == z) = false := beq_eq_false_iff_ne.2 hyz
          have hr : r = false := by rw [H.out.2.2.1]; exact HE.out.2.2 hyz
          subst hr
          go_wp2_with fail
          go_quiet (fail)
          go_wp2_with fail
          go_ret
          exact ⟨rfl, hF.out.2.trans (Below.of_drewN _ _ _)⟩
      · obtain rfl : t = n := by omega
        have hr : r = true := by
          rw [H.out.2.2.1]
          have h5 := H.out.1
          have h6 := H.out.2.1
          refine takes_eq (by omega) ?_
          rw [← h5]
          exact hF.out.1
        subst hr
        go_wp2_with fail
        go_ret
        exact ⟨rfl, hF.out.2⟩
  · have hb : ((n : Int) == (k : Int)) = false := beq_eq_false_iff_ne.2 (by omega)
    have hr : r = false := by
      rw [H.out.2.2.1, beq_eq_false_iff_ne]
      intro he
      have := congrArg List.length he
      have h5 := H.out.1
      have h6 := H.out.2.1
      omega
    subst hr
    go_enter Tryz.func26, Tryz.ntmps26
    go_wp2_with fail
    go_ret
    exact ⟨rfl, Below.refl _ _⟩

theorem collect_sv (l : Chart.Rs) (v : Value) (h1 : 1 ≤ l.length) (h2 : l.length ≤ 64) (w : World) (hS : Sv w.heap.size w v l) :
    Calls Tryz.prog 27 #[v, .func (.func 28) #[] #[]] w (MadeI w.heap.size (l.map Prod.fst) w) := by
  obtain ⟨a, cap, rfl, hc, hx⟩ := hS.shape
  obtain ⟨g, off, rfl, hg, hS⟩ := hx (by intro h0; rw [h0] at h1; simp at h1)
  exact collect_at l g off cap h1 h2 w hS hg

theorem index_pair (x y : Value) (w : World) :
    (Instr.index 49 (.agg #[x, y]) (.int .i64 0)).run Tryz.prog w = .ok x w ∧ (Instr.index 49 (.agg #[x, y]) (.int .i64 1)).run Tryz.prog w = .ok y w := by
  constructor <;> kernel_rfl

/-- No shares, and a code. -/
abbrev noS (e : Int) : Ending := .returned (.tuple #[.slice none 0 0, .int .i64 e])

set_option maxRecDepth 20000 in
theorem sum_bad1 (a b : Chart.Rs) (ha : Chart.okS a = false) (v x : Value) (w : World) (hv : Sv w.heap.size w v a) (hx : Sv w.heap.size w x b) :
    Calls Tryz.prog 14 #[v, x] w fun e w' => e = noS 80 ∧ Below w.heap.size w w' := by
  obtain ⟨a1, c1, h1, -, -⟩ := hv.shape
  obtain ⟨a2, c2, h2, -, -⟩ := hx.shape
  have i0 := fun w => (index_pair v x w).1
  have C1 := scheck_any v a w hv
  rw [shErr_bad ha] at C1
  replace C1 := Lib.hid C1
  subst h1
  subst h2
  clear hv hx ha
  go_enter Tryz.func14, Tryz.ntmps14
  go_wp2_with fail
  refine wp_loop_rounds 1 ?_
  rw [rounds_succ]
  go_wp2_with fail
  refine C1.out.mono ?_
  rintro e w1 ⟨rfl, hB1⟩
  have H1 := Lib.hid hB1
  clear hB1
  go_wp2_with fail
  go_ret2
  exact ⟨rfl, H1.out⟩
theorem sum_bad2 (a b : Chart.Rs) (ha : Chart.okS a = true) (hb : Chart.okS b = false) (v x : Value) (w : World) (hv : Sv w.heap.size w v a) (hx : Sv w.heap.size w x b) :
    Calls Tryz.prog 14 #[v, x] w fun e w' => e = noS 80 ∧ Below w.heap.size w w' := by
  obtain ⟨a1, c1, h1, -, -⟩ := hv.shape
  obtain ⟨a2, c2, h2, -, -⟩ := hx.shape
  have i0 := fun w => (index_pair v x w).1
  have i1 := fun w => (index_pair v x w).2
  have C1 := scheck_any v a w hv
  rw [shErr_ok ha] at C1
  replace C1 := Lib.hid C1
  have C2 := Lib.hid (fun w1 (hB : Below w.heap.size w w1) => scheck_any x b w1 ((hx.below hB).mono hB.size))
  rw [shErr_bad hb] at C2
  subst h1
  subst h2
  clear hv hx ha hb
  go_enter Tryz.func14, Tryz.ntmps14
  go_wp2_with fail
  refine wp_loop_rounds 2 ?_
  rw [rounds_succ]
  go_wp2_with fail
  refine C1.out.mono ?_
  rintro e w1 ⟨rfl, hB1⟩
  have H1 := Lib.hid hB1
  clear hB1
  go_wp2_with fail
  rw [rounds_succ]
  go_wp2_with fail
  refine (C2.out w1 H1.out).mono ?_
  rintro e w2 ⟨rfl, hB2⟩
  have H2 := Lib.hid (H1.out.trans (hB2.mono H1.out.size))
  clear hB2
  go_wp2_with fail
  go_ret2
  exact ⟨rfl, H2.out⟩
end Go.Proofs.YtgklcfipgdbbgaaGreatDoor
