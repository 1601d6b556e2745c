/- chartroomref04.Rest and Scalar. -/
import Derived.Deep.RegionHeld3
import Derived.Test.YtgklcfipgdbbgaaGreatDoorM29
import Derived.Test.YtgklcfipgdbbgaaGreatDoorM32
import Derived.Test.YtgklcfipgdbbgaaGreatDoorM10
namespace Go.Proofs.YtgklcfipgdbbgaaGreatDoor
open Go.RowKit

set_option maxRecDepth 20000 in
set_option maxHeartbeats 4000000 in
theorem rrest_any (d : List UInt8) (hd : d.length = 32) (m : Nat) (hm0 : 256 < m) (hm : m < 4611686018427387904) (w : World) :
    Calls Tryz.prog 84 #[.agg (d.map u8v).toArray, .int .i64 m] w fun e w' => e = .returned (.int .i64 (restOf m d : Nat)) ∧ Below w.heap.size w w' := by
  obtain ⟨c, hc⟩ : ∃ c, c = d.map u8v := ⟨_, rfl⟩
  have hcl : c.length = 32 := by rw [hc, List.length_map, hd]
  rw [← hc]
  obtain ⟨w1, hw1⟩ : ∃ x, x = w.alloc (.cells c.toArray 85) := ⟨_, rfl⟩
  have r1 : RowIs w1 w.heap.size 85 c := by rw [hw1]; exact RowIs.new w c _
  have hB1 : Below w.heap.size w w1 := by rw [hw1]; exact (Below.refl _ w).alloc (Nat.le_refl _) _
  have F1 := Lib.hid (And.intro hB1 (And.intro r1 hc))
  have Hm := Lib.hid (And.intro hm0 hm)
  clear hB1 r1 hc hm0 hm
  go_enter Tryz.func84, Tryz.ntmps84
  go_upto_block 0 with fail
  rw [← hw1]
  clear hw1
  go_wp2_with fail
  go_loopw [5, 6] (fun n i wr => ∃ t : Nat, t ≤ 32 ∧ i = .int .i64 t ∧ ∃ r : Nat, n = .int .i64 r ∧ Hid (r = restOf m (d.take t) ∧ ∃ k, wr = w1.drewN k)) (fun _ i _ => 32 - (intOf i).toNat)
  case atStart => exact ⟨0, by omega, rfl, 0, rfl, Lib.hid ⟨rfl, 0, rfl⟩⟩
  case round =>
    obtain ⟨t, ht, rfl, r, rfl, H⟩ := hrel
    by_cases hlt : t < 32
    · obtain ⟨x, hx⟩ : ∃ x, d[t]? = some x := ⟨_, List.getElem?_eq_getElem (by omega)⟩
      have hcx : c[t]? = some (u8v x) := by rw [F1.out.2.2, List.getElem?_map, hx]; rfl
      have hcell : wr.cell? ⟨w.heap.size, t, none⟩ = some (u8v x) := by
        obtain ⟨k, hk⟩ := H.out.2
        rw [hk]
        exact (F1.out.2.1.cell t).trans hcx
      have hr : r < m := by rw [H.out.1]; exact restOf_lt m (by have := Hm.out.1; omega) _
      have C := Lib.hid (rprod4_any 256 r m Hm.out.1 (by have := Hm.out.2; omega) Hm.out.2)
      rw [show ((256 : Nat) : Int) = 256 from rfl] at C
      have hq : 256 * r % m < m := Nat.mod_lt _ (by omega)
      have hn : (256 * r % m + x.toNat) % m = restOf m (d.take (t + 1)) := by
        rw [List.take_add_one, hx, show (some x).toList = [x] from rfl, restOf_snoc, ← H.out.1, Nat.mul_comm 256 r, Nat.mod_add_mod]
      obtain ⟨q, hqq⟩ : ∃ q, q = 256 * r % m := ⟨_, rfl⟩
      rw [← hqq] at C hq hn
      have hxl := x.toNat_lt
      have hm2 := Hm.out.2
      have e1 : IntKind.i64.wrap (bn x) = bn x := by unfold bn; exact wrap_i64_small' (by omega) (by omega)
      have e2 : IntKind.i64.wrap ((q : Int) + bn x) = (q : Int) + bn x := by unfold bn; exact wrap_i64_small' (by omega) (by omega)
      have hm3 : ¬ m = 0 := by omega
      obtain ⟨rr, hrr⟩ : ∃ rr, rr = restOf m (d.take (t + 1)) := ⟨_, rfl⟩
      rw [← hrr] at hn
      have e8 : ((q : Int) + bn x).tmod (m : Int) = (rr : Int) := by
        rw [← hn]
        unfold bn
        rw [← Int.natCast_add, ← Int.ofNat_tmod]
      have HN := Lib.hid hrr
      clear hrr hn hq hcx hx hqq hxl hr
      go_upto_region 5 with fail
      go_region_held3 (fun w' => w'.cell? ⟨w.heap.size, t, none⟩ = some (u8v x)) (first | assumption | go_keep)
        (first
          | (go_at_call 93
             refine (C.out _).mono ?_
             rintro e wq ⟨rfl, rfl⟩))
      all_goals
        go_wp2_with fail
        obtain ⟨k, hk⟩ := H.out.2
        exact ⟨⟨t + 1, by omega, by go_num, rr, rfl, Lib.hid ⟨HN.out, k + 1, by rw [hk]; rfl⟩⟩, by simp [intOf]; omega⟩
    · obtain rfl : t = 32 := by omega
      go_wp2_with fail
      go_ret
      obtain ⟨h1, k, h2⟩ := H.out
      refine ⟨?_, ?_⟩
      · rw [h1, List.take_of_length_le (by omega)]; rfl
      · rw [h2]; exact F1.out.1.trans ⟨rfl, rfl, rfl, Nat.le_refl _, fun _ _ => rfl⟩

theorem rscalar4_any (tag : ByteArray) (ht0 : tag.data.toList ≠ []) (ht : tag.data.toList.length < 1099511627776) (l : List UInt8) (hlen : l.length < 1099511627000) (g off cap : Nat) (w : World) (hb : BytesAt w g off l) (hg : g < w.heap.size) :
    Calls Tryz.prog 63 #[.string tag, .slice (some ⟨g, off, none⟩) l.length cap] w fun e w' => e = .returned (.int .i64 (scalarOf tag.data.toList l)) ∧ Below w.heap.size w w' := by
  have C1 := Lib.hid (rtag_any tag ht0 ht l hlen g off cap w hb hg)
  have C2 := Lib.hid (rrest_any (Chart.tagged tag.data.toList l) (Chart.tagged_length _ _) 2305843009213688668 (by omega) (by omega))
  have hge := scalarOf_ge tag.data.toList l
  have hlt := scalarOf_lt tag.data.toList l
  obtain ⟨r, hr⟩ : ∃ r, r = restOf 2305843009213688668 (Chart.tagged tag.data.toList l) := ⟨_, rfl⟩
  have hs : (scalarOf tag.data.toList l : Int) = 1 + (r : Int) := by rw [hr]; unfold scalarOf; omega
  rw [← hr] at C2
  rw [show ((2305843009213688668 : Nat) : Int) = 2305843009213688668 from rfl] at C2
  have e2 : IntKind.i64.wrap (1 + (r : Int)) = 1 + (r : Int) := wrap_i64_small' (by omega) (by omega)
  have HS := Lib.hid hs
  obtain ⟨c, hc⟩ : ∃ c, c = (Chart.tagged tag.data.toList l).map u8v := ⟨_, rfl⟩
  rw [← hc] at C1 C2
  clear hr hs hge hlt hb hg hc
  go_enter Tryz.func63, Tryz.ntmps63
  go_wp2_with fail
  refine C1.out.mono ?_
  rintro e w1 ⟨rfl, hB1⟩
  go_wp2_with fail
  refine (C2.out w1).mono ?_
  rintro e w2 ⟨rfl, hB2⟩
  have HB := Lib.hid (hB1.trans (hB2.mono hB1.size))
  clear hB1 hB2
  go_wp2_with fail
  go_ret
  exact ⟨by rw [HS.out]; rfl, HB.out⟩
end Go.Proofs.YtgklcfipgdbbgaaGreatDoor
