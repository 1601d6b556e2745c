/- chartroomlaw08.chosen; the law's calls of Split. -/
import Derived.Test.YtgklcfipgdbbgaaDoorM25
import Derived.Test.YtgklcfipgdbbgaaDoorM27
namespace Go.Proofs.YtgklcfipgdbbgaaDoor
open Go.RowKit
attribute [-go_sem] Builtin.append_

/-- The chosen ones of the first k shares. -/
def choN (l : Chart.Sh) (take : List Bool) (k : Nat) : Chart.Sh := ((List.range k).filter fun i => take.getD i false).map fun i => l.getD i (0, 0)
theorem choN_succ (l : Chart.Sh) (take : List Bool) {k : Nat} (hk : k < l.length) : choN l take (k + 1) = if take.getD k false then choN l take k ++ [l[k]] else choN l take k := by
  unfold choN
  rw [List.range_succ, List.filter_append, List.map_append]
  cases h : take.getD k false
  · simp only [List.filter_cons, List.filter_nil, h]
    simp
  · simp only [List.filter_cons, List.filter_nil, h]
    simp only [if_true, List.map_cons, List.map_nil]
    rw [Chart.getD_at l hk]
theorem choN_sub (l : Chart.Sh) (take : List Bool) : List.Sublist (choN l take l.length) l := by
  have h1 : List.Sublist (choN l take l.length) ((List.range l.length).map fun i => l.getD i (0, 0)) := (List.filter_sublist).map _
  have h2 : (List.range l.length).map (fun i => l.getD i (0, 0)) = l := by
    apply List.ext_getElem
    · simp
    · intro i h1 h2
      rw [List.getElem_map, List.getElem_range, Chart.getD_at l h2]
  rw [h2] at h1
  exact h1
theorem choN_len (l : Chart.Sh) (take : List Bool) (k : Nat) : (choN l take k).length ≤ k := by
  unfold choN
  rw [List.length_map]
  have := List.length_filter_le (fun i => take.getD i false) (List.range k)
  rw [List.length_range] at this
  exact this

set_option maxRecDepth 20000 in
theorem chosen_at (l : Chart.Sh) (take : List Bool) (g off cap : Nat) (h1 : 1 ≤ l.length) (h2 : l.length ≤ 64) (x : Value) (w : World) (hS : SAt w g off (Chart.raw l)) (hg : g < w.heap.size) (hT : Bv w.heap.size w x take) :
    Calls Tryd.prog 17 #[.slice (some ⟨g, off, none⟩) l.length cap, x] w fun e w' => ∃ u, e = .returned u ∧ OwnS w.heap.size w' u (Chart.raw (choN l take l.length)) ∧ Below w.heap.size w w' := by
  obtain ⟨ax, cx, rfl, -, hbx⟩ := hT.shape
  obtain ⟨n, hn⟩ : ∃ n, n = l.length := ⟨_, rfl⟩
  obtain ⟨k, hk⟩ : ∃ k, k = take.length := ⟨_, rfl⟩
  rw [← hn] at h1 h2 ⊢
  rw [← hk]
  have H := Lib.hid (And.intro hn (And.intro hk (And.intro hS hbx)))
  clear hn hk hS hbx hT
  go_enter Tryd.func17, Tryd.ntmps17
  go_wp2_with fail
  go_loopw [5, 6] (fun u i wr => ∃ t : Nat, t ≤ n ∧ i = .int .i64 t ∧ Hid (Below w.heap.size w wr ∧ OwnS w.heap.size wr u (Chart.raw (choN l take t)))) (fun _ i _ => n - (intOf i).toNat)
  case atStart => exact ⟨0, Nat.zero_le _, rfl, Lib.hid ⟨Below.refl _ _, OwnS.nil _ _⟩⟩
  case round =>
    obtain ⟨t, ht2, rfl, hB⟩ := hrel
    by_cases hlt : t < n
    · have htl : t < l.length := by have := H.out.1; omega
      have hsu := choN_succ l take htl
      have ka := (H.out.2.2.1.below hB.out.1 hg) t (by rw [Chart.raw_length]; exact htl)
      rw [raw_at] at ka
      have hln : (Chart.raw (choN l take t)).length ≤ 64 := by rw [Chart.raw_length]; have := choN_len l take t; omega
      generalize l[t] = s at *
      obtain ⟨p, y⟩ := s
      have k0 : wr.cell? ⟨g, off + t * 2, none⟩ = some (fv p) := ka.1
      have k1 : wr.cell? ⟨g, off + t * 2 + 1, none⟩ = some (fv y) := ka.2
      have HB := Lib.hid (And.intro hB.out.1 (And.intro hB.out.2 hln))
      have htn : (t : Int) < (n : Int) := by omega
      by_cases hb : take.getD t false = true
      · rw [if_pos hb] at hsu
        have htk : t < take.length := by
          apply Classical.byContradiction
          intro hh
          rw [List.getD_eq_getElem?_getD, List.getElem?_eq_none (by omega)] at hb
          cases hb
        have htv : take[t] = true := by rw [List.getD_eq_getElem?_getD, List.getElem?_eq_getElem htk] at hb; exact hb
        obtain ⟨gx, ox, rfl, hgx, hcx⟩ := H.out.2.2.2 (by intro h0; rw [h0] at htk; simp at htk)
        have kb : wr.cell? ⟨gx, ox + t, none⟩ = some (.bool true) := by rw [(bcell HB.out.1).1 gx _ hgx, hcx t htk, htv]
        have htk2 : (t : Int) < (k : Int) := by have := H.out.2.1; omega
        obtain ⟨v4, w4, E4, hO4, hG4⟩ := append_share HB.out.2.1 HB.out.1.size (by have := HB.out.2.2; omega) (p.val : Int) (y.val : Int) 42
        have hr : Chart.raw (choN l take (t + 1)) = Chart.raw (choN l take t) ++ [((p.val : Int), (y.val : Int))] := by rw [hsu, Chart.raw_append]; rfl
        have H4 := Lib.hid (And.intro (HB.out.1.trans (hG4.belowS HB.out.2.1 HB.out.1.size)) (hr ▸ hO4))
        clear hsu ka hln hB hcx htv hb hO4 hG4 hr
        go_wp2_with fail
        exact ⟨⟨t + 1, by omega, by go_num, Lib.hid H4.out⟩, by simp [intOf]; omega⟩
      · rw [if_neg hb] at hsu
        by_cases htk : t < take.length
        · have htv : take[t] = false := by
            rw [List.getD_eq_getElem?_getD, List.getElem?_eq_getElem htk] at hb
            simpa using hb
          obtain ⟨gx, ox, rfl, hgx, hcx⟩ := H.out.2.2.2 (by intro h0; rw [h0] at htk; simp at htk)
          have kb : wr.cell? ⟨gx, ox + t, none⟩ = some (.bool false) := by rw [(bcell HB.out.1).1 gx _ hgx, hcx t htk, htv]
          have htk2 : (t : Int) < (k : Int) := by have := H.out.2.1; omega
          have HS := Lib.hid hsu
          clear hsu ka hln hB hcx htv hb
          go_wp2_with fail
          exact ⟨⟨t + 1, by omega, by go_num, Lib.hid ⟨HB.out.1, by rw [HS.out]; exact HB.out.2.1⟩⟩, by simp [intOf]; omega⟩
        · have htk2 : ¬ (t : Int) < (k : Int) := by have := H.out.2.1; omega
          have HS := Lib.hid hsu
          clear hsu ka hln hB hb
          go_wp2_with fail
          exact ⟨⟨t + 1, by omega, by go_num, Lib.hid ⟨HB.out.1, by rw [HS.out]; exact HB.out.2.1⟩⟩, by simp [intOf]; omega⟩
    · obtain rfl : t = n := by omega
      go_wp2_with fail
      go_ret
      exact ⟨_, rfl, hB.out.2, hB.out.1⟩
end Go.Proofs.YtgklcfipgdbbgaaDoor
