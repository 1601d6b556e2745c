/- The reference's digest (chartroomref02): ror, word, the table of numbers. -/
import Derived.BigQuiet
import Derived.Deep.RegionHeld3
import Derived.Deep.RegionWith
import Derived.Test.YtgklcfipgdbbgaaGreatDoorM4
import Derived.Test.YtgklcfipgdbbgaaGreatDoorM10
namespace Go.Proofs.YtgklcfipgdbbgaaGreatDoor
open Go.RowKit

@[go_sem high] theorem bits_not_tn (x : BitVec 32) : bits .xor .u32 IntKind.u32.max (tn x) = tn (~~~x) := by
  have e : IntKind.u32.max = tn (BitVec.allOnes 32) := by kernel_rfl
  rw [e, bits_xor_tn]
  congr 1

theorem tn_add2 (a b : BitVec 32) : (tn a + tn b) % 4294967296 = tn (a + b) := by
  unfold tn
  rw [BitVec.toNat_add]
  omega
theorem tn_add4 (a b c d : BitVec 32) : (tn a + tn b + tn c + tn d) % 4294967296 = tn (((a + b) + c) + d) := by
  rw [← tn_add2, ← tn_add2, ← tn_add2]
  omega
theorem tn_add3 (a b c : BitVec 32) : (tn a + tn b + tn c) % 4294967296 = tn ((a + b) + c) := by
  rw [← tn_add2, ← tn_add2]
  omega

theorem ror_any (x : BitVec 32) (n : Int) (n0 : 0 ≤ n) (n1 : n ≤ 32) (w : World) :
    Calls Tryz.prog 105 #[.int .u32 (tn x), .int .i64 n] w fun e w' => e = .returned (.int .u32 (tn (Chart.ror x n.toNat))) ∧ ∃ m, w' = w.drewN m := by
  obtain ⟨a, ha⟩ : ∃ a : Nat, n = a := ⟨n.toNat, by omega⟩
  subst ha
  obtain ⟨k, hk⟩ : ∃ k, k = 32 - a := ⟨_, rfl⟩
  have e1 : (32 : Int) - (a : Int) = (k : Int) := by omega
  have h2 : (0 : Int) ≤ (k : Int) := by omega
  have e3 : IntKind.i64.wrap (k : Int) = (k : Int) := wrap_i64_small' (by omega) (by omega)
  have Hk := Lib.hid hk
  clear n1 hk
  go_enter Tryz.func105, Tryz.ntmps105
  go_wp2_with fail
  go_quiet (fail)
  go_wp2_with fail
  go_ret
  exact ⟨by rw [Int.toNat_natCast, Chart.ror, ← Hk.out]; rfl, _, rfl⟩

theorem rword_any (a b c d : UInt8) (g off n cap : Nat) (hn : 4 ≤ n) (w : World) (h0 : w.cell? ⟨g, off, none⟩ = some (u8v a)) (h1 : w.cell? ⟨g, off + 1, none⟩ = some (u8v b)) (h2 : w.cell? ⟨g, off + 2, none⟩ = some (u8v c)) (h3 : w.cell? ⟨g, off + 3, none⟩ = some (u8v d)) :
    Calls Tryz.prog 104 #[.slice (some ⟨g, off, none⟩) n cap] w fun e w' => e = .returned (.int .u32 (tn (Chart.be32 a b c d))) ∧ ∃ m, w' = w.drewN m := by
  have b0 : (0 : Int) < (n : Int) := by omega
  have b1 : (1 : Int) < (n : Int) := by omega
  have b2 : (2 : Int) < (n : Int) := by omega
  have b3 : (3 : Int) < (n : Int) := by omega
  go_enter Tryz.func104, Tryz.ntmps104
  go_wp2_with fail
  go_quiet (fail)
  go_wp2_with fail
  go_ret
  exact ⟨rfl, _, rfl⟩

/-- The making of a table of 64 words, which stands still in a walk. -/
def tabBuild (parts : Array (Nat × Value)) : Sem Value := Instr.build 134 parts
@[go_sem ↓ high] theorem build_tab_eq (parts : Array (Nat × Value)) : Instr.build 134 parts = tabBuild parts := rfl
def numL : List Value := (List.range 64).map fun t => u32v (Chart.kAt t)
theorem numL_get (t : Nat) (h : t < 64) : numL[t]? = some (u32v (Chart.kAt t)) := by simp [numL, h]
set_option maxRecDepth 100000 in
theorem run_numbers (w : World) : (tabBuild #[(0, .int .u32 1116352408), (1, .int .u32 1899447441), (2, .int .u32 3049323471), (3, .int .u32 3921009573), (4, .int .u32 961987163), (5, .int .u32 1508970993), (6, .int .u32 2453635748), (7, .int .u32 2870763221), (8, .int .u32 3624381080), (9, .int .u32 310598401), (10, .int .u32 607225278), (11, .int .u32 1426881987), (12, .int .u32 1925078388), (13, .int .u32 2162078206), (14, .int .u32 2614888103), (15, .int .u32 3248222580), (16, .int .u32 3835390401), (17, .int .u32 4022224774), (18, .int .u32 264347078), (19, .int .u32 604807628), (20, .int .u32 770255983), (21, .int .u32 1249150122), (22, .int .u32 1555081692), (23, .int .u32 1996064986), (24, .int .u32 2554220882), (25, .int .u32 2821834349), (26, .int .u32 2952996808), (27, .int .u32 3210313671), (28, .int .u32 3336571891), (29, .int .u32 3584528711), (30, .int .u32 113926993), (31, .int .u32 338241895), (32, .int .u32 666307205), (33, .int .u32 773529912), (34, .int .u32 1294757372), (35, .int .u32 1396182291), (36, .int .u32 1695183700), (37, .int .u32 1986661051), (38, .int .u32 2177026350), (39, .int .u32 2456956037), (40, .int .u32 2730485921), (41, .int .u32 2820302411), (42, .int .u32 3259730800), (43, .int .u32 3345764771), (44, .int .u32 3516065817), (45, .int .u32 3600352804), (46, .int .u32 4094571909), (47, .int .u32 275423344), (48, .int .u32 430227734), (49, .int .u32 506948616), (50, .int .u32 659060556), (51, .int .u32 883997877), (52, .int .u32 958139571), (53, .int .u32 1322822218), (54, .int .u32 1537002063), (55, .int .u32 1747873779), (56, .int .u32 1955562222), (57, .int .u32 2024104815), (58, .int .u32 2227730452), (59, .int .u32 2361852424), (60, .int .u32 2428436474), (61, .int .u32 2756734187), (62, .int .u32 3204031479), (63, .int .u32 3329325298)]).run Tryz.prog w = .ok (.agg numL.toArray) w := by kernel_rfl
set_option maxRecDepth 100000 in
theorem run_zeros64 (w : World) : (tabBuild #[]).run Tryz.prog w = .ok (.agg (words (schedZ [] 0)).toArray) w := by kernel_rfl
theorem schedZ_zero (blk : List UInt8) : schedZ blk 0 = schedZ [] 0 := rfl
theorem oneCell_words (l : List (BitVec 32)) : ∀ v ∈ words l, v.oneCell' = true := by
  intro v hv
  simp only [words, List.mem_map] at hv
  obtain ⟨x, _, rfl⟩ := hv
  rfl
theorem oneCell_numL : ∀ v ∈ numL, v.oneCell' = true := by
  intro v hv
  simp only [numL, List.mem_map] at hv
  obtain ⟨x, _, rfl⟩ := hv
  rfl

set_option maxRecDepth 100000 in
theorem rnumbers_any (w : World) : Calls Tryz.prog 106 #[] w fun e w' => e = .returned (.agg numL.toArray) ∧ Below w.heap.size w w' := by
  have hb := run_numbers
  obtain ⟨n, hn⟩ : ∃ n, n = numL := ⟨_, rfl⟩
  have hnl : n.length = 64 := by rw [hn]; rfl
  have hn1 : ∀ v ∈ n, v.oneCell' = true := by rw [hn]; exact oneCell_numL
  rw [← hn] at hb ⊢
  clear hn
  obtain ⟨w3, E3, hR3, hB3⟩ := fresh_store (P := Tryz.prog) w 134 #[.int .u32 0, .int .u32 0, .int .u32 0, .int .u32 0, .int .u32 0, .int .u32 0, .int .u32 0, .int .u32 0, .int .u32 0, .int .u32 0, .int .u32 0, .int .u32 0, .int .u32 0, .int .u32 0, .int .u32 0, .int .u32 0, .int .u32 0, .int .u32 0, .int .u32 0, .int .u32 0, .int .u32 0, .int .u32 0, .int .u32 0, .int .u32 0, .int .u32 0, .int .u32 0, .int .u32 0, .int .u32 0, .int .u32 0, .int .u32 0, .int .u32 0, .int .u32 0, .int .u32 0, .int .u32 0, .int .u32 0, .int .u32 0, .int .u32 0, .int .u32 0, .int .u32 0, .int .u32 0, .int .u32 0, .int .u32 0, .int .u32 0, .int .u32 0, .int .u32 0, .int .u32 0, .int .u32 0, .int .u32 0, .int .u32 0, .int .u32 0, .int .u32 0, .int .u32 0, .int .u32 0, .int .u32 0, .int .u32 0, .int .u32 0, .int .u32 0, .int .u32 0, .int .u32 0, .int .u32 0, .int .u32 0, .int .u32 0, .int .u32 0, .int .u32 0] n (by rw [hnl]; rfl) hn1
  go_enter Tryz.func106, Tryz.ntmps106
  go_wp2_with fail
  refine bodyPost_ret (results_cell_row (d := .array 64 118) rfl _ _ w.heap.size _ n.toArray (0, 0) rfl hR3 (by kernel_rfl) rfl (by rw [List.size_toArray, hnl]; kernel_rfl)) rfl ?_
  exact ⟨rfl, hB3⟩
end Go.Proofs.YtgklcfipgdbbgaaGreatDoor

/- The reference's digest: one block. -/
namespace Go.Proofs.YtgklcfipgdbbgaaGreatDoor
open Go.RowKit

theorem Apart.drewN (g : Nat) (w : World) (n : Nat) : Apart g w (w.drewN n) := ⟨rfl, rfl, rfl, Nat.le_refl _, fun _ _ _ => rfl⟩

set_option maxRecDepth 100000 in
set_option maxHeartbeats 16000000 in
theorem rblock_any (s : Chart.St) (blk : List UInt8) (hblk : blk.length = 64) (g off n cap : Nat) (hn : 64 ≤ n) (hcap : n ≤ cap) (w : World) (hb : BytesAt w g off blk) (hgw : g < w.heap.size) :
    Calls Tryz.prog 95 #[.agg (words s.list).toArray, .slice (some ⟨g, off, none⟩) n cap] w fun e w' => e = .returned (.agg (words (Chart.blockS s blk).list).toArray) ∧ Below w.heap.size w w' := by
  have hz := run_zeros64
  obtain ⟨z, hzz⟩ : ∃ z, z = words (schedZ [] 0) := ⟨_, rfl⟩
  have hzl : z.length = 64 := by rw [hzz]; rfl
  have hz1 : ∀ v ∈ z, v.oneCell' = true := by rw [hzz]; exact oneCell_words _
  rw [← hzz] at hz
  obtain ⟨w1, hw1⟩ : ∃ x, x = w.alloc (.cells (words s.list).toArray 119) := ⟨_, rfl⟩
  obtain ⟨w2, hw2⟩ : ∃ x, x = w1.alloc (.cells #[.int .u32 0, .int .u32 0, .int .u32 0, .int .u32 0, .int .u32 0, .int .u32 0, .int .u32 0, .int .u32 0] 119) := ⟨_, rfl⟩
  have s1 : w1.heap.size = w.heap.size + 1 := by rw [hw1]; simp
  have s2 : w2.heap.size = w.heap.size + 1 + 1 := by rw [hw2]; simp [s1]
  have r1 : RowIs w2 w.heap.size 119 (words s.list) := by
    rw [hw2]
    refine RowIs.alloc ?_ _
    rw [hw1]; exact RowIs.new w _ _
  have r2 : RowIs w2 (w.heap.size + 1) 119 (List.replicate 8 (.int .u32 0)) := by
    rw [hw2, ← s1]; exact RowIs.new w1 (List.replicate 8 (.int .u32 0)) _
  have hB : Below w.heap.size w w2 := by rw [hw2, hw1]; exact ((Below.refl _ w).alloc (Nat.le_refl _) _).alloc (by simp) _
  obtain ⟨w3, E3, hR3, hB3⟩ := fresh_store (P := Tryz.prog) w2 134 #[.int .u32 0, .int .u32 0, .int .u32 0, .int .u32 0, .int .u32 0, .int .u32 0, .int .u32 0, .int .u32 0, .int .u32 0, .int .u32 0, .int .u32 0, .int .u32 0, .int .u32 0, .int .u32 0, .int .u32 0, .int .u32 0, .int .u32 0, .int .u32 0, .int .u32 0, .int .u32 0, .int .u32 0, .int .u32 0, .int .u32 0, .int .u32 0, .int .u32 0, .int .u32 0, .int .u32 0, .int .u32 0, .int .u32 0, .int .u32 0, .int .u32 0, .int .u32 0, .int .u32 0, .int .u32 0, .int .u32 0, .int .u32 0, .int .u32 0, .int .u32 0, .int .u32 0, .int .u32 0, .int .u32 0, .int .u32 0, .int .u32 0, .int .u32 0, .int .u32 0, .int .u32 0, .int .u32 0, .int .u32 0, .int .u32 0, .int .u32 0, .int .u32 0, .int .u32 0, .int .u32 0, .int .u32 0, .int .u32 0, .int .u32 0, .int .u32 0, .int .u32 0, .int .u32 0, .int .u32 0, .int .u32 0, .int .u32 0, .int .u32 0, .int .u32 0] z (by rw [hzl]; rfl) hz1
  rw [s2] at E3 hR3
  have q1 := r1.below hB3 r1.lt
  have q2 := r2.below hB3 r2.lt
  have qB := hB.trans (hB3.mono hB.size)
  rw [hzz] at hR3
  have F0 := Lib.hid (And.intro qB (And.intro q1 (And.intro q2 (And.intro hR3 (And.intro hb (And.intro hgw hblk))))))
  have s3 := hB3.size
  have F1 := Lib.hid (And.intro s2 s3)
  clear r1 r2 hB hB3 q1 q2 qB hR3 hb hgw hblk s1 s3 hzz
  rw [hw1] at hw2
  rw [hw2] at E3
  go_enter Tryz.func95, Tryz.ntmps95
  go_upto_block 0 with fail
  clear E3 hz hw2 hzl hz1
  go_cut [6] (fun _ wr => Below w3.heap.size w3 w3 ∧ Apart (w.heap.size + 1 + 1) w3 wr ∧ RowIs wr (w.heap.size + 1 + 1) 134 (words (schedZ blk 16)))
  case first =>
    go_wp2_with fail
    go_loopw [6] (fun i wr => ∃ t : Nat, t ≤ 16 ∧ i = .int .i64 t ∧ Hid (RowIs wr (w.heap.size + 1 + 1) 134 (words (schedZ blk t))) ∧ Hid (Apart (w.heap.size + 1 + 1) w3 wr)) (fun i _ => 16 - (intOf i).toNat)
    case atStart => exact ⟨0, by omega, rfl, Lib.hid F0.out.2.2.2.1, Lib.hid (Apart.refl _ _)⟩
    case round =>
      obtain ⟨t, ht, rfl, hR, hA⟩ := hrel
      by_cases hlt : t < 16
      · have hgw := F0.out.2.2.2.2.2.1
        have hblk := F0.out.2.2.2.2.2.2
        have hs2 := F1.out.1
        have hs3 := F1.out.2
        have hbb : BytesAt wr g off blk := fun i hi => (hA.out.cell (by omega) (by omega) _).trans ((F0.out.2.2.2.2.1.below F0.out.1 hgw) i hi)
        have hbs : BytesAt wr g (off + 4 * t) ((blk.drop (4 * t)).take 4) := hbb.part _ _
        obtain ⟨a, b, c, d, hfour⟩ : ∃ a b c d, (blk.drop (4 * t)).take 4 = [a, b, c, d] := by
          have hl4 : ((blk.drop (4 * t)).take 4).length = 4 := by simp; omega
          match hm : (blk.drop (4 * t)).take 4, hl4 with
          | [a, b, c, d], _ => exact ⟨a, b, c, d, rfl⟩
        have hx := wordAt_four blk t (by omega)
        rw [hfour] at hbs hx
        rw [wfold_four] at hx
        have C := Lib.hid (rword_any a b c d g (off + 4 * t) 4 (cap - 4 * t) (by omega) wr (hbs 0 (by simp)) (hbs 1 (by simp)) (hbs 2 (by simp)) (hbs 3 (by simp)))
        obtain ⟨v, hv⟩ := schedZ_at blk t (by omega)
        have hcell : wr.cell? ⟨w.heap.size + 1 + 1, t, none⟩ = some v := (hR.out.cell t).trans hv
        have hfr := hR.out.frozen t
        have hsx : Chart.sched blk (t + 1) = Chart.sched blk t ++ [Chart.be32 a b c d] := by simp [Chart.sched, hlt, hx]
        have Hsx := Lib.hid hsx
        have e4 : IntKind.i64.wrap (4 * (t : Int) + 4) = 4 * (t : Int) + 4 := wrap_i64_small' (by omega) (by omega)
        have b1 : (4 : Int) * (t : Int) + 4 ≤ (cap : Int) := by omega
        have b2 : ¬ (cap : Int) < 4 * (t : Int) + 4 := by omega
        clear hsx hx hv hbs hbb hgw hblk hs2 hs3 hfour
        go_wp2_with fail
        refine C.out.mono ?_
        rintro e w4 ⟨rfl, m, rfl⟩
        go_wp2_with fail
        refine ⟨⟨t + 1, by omega, by go_num, Lib.hid ?_, Lib.hid ?_⟩, by simp [intOf]; omega⟩
        · rw [← schedZ_set blk t (by omega) _ Hsx.out]
          exact RowIs.set (show RowIs _ _ _ _ from hR.out) _ _
        · exact (hA.out.trans (Apart.drewN _ wr m)).trans (Apart.setCell _ _ _ _)
      · obtain rfl : t = 16 := by omega
        go_wp2_with fail
        go_meet
        exact ⟨Below.refl _ _, hA.out, hR.out⟩
  case rest =>
    obtain ⟨-, hA, hR⟩ := hcut
    go_upto_block 2 with fail
    go_cut [7] (fun _ wr => Apart (w.heap.size + 1 + 1) w3 wr ∧ RowIs wr (w.heap.size + 1 + 1) 134 (words (schedZ blk 64)))
    case first =>
      have hA := Lib.hid hA; have hR := Lib.hid hR
      go_wp2_with fail
      go_loopw [7] (fun i wr => ∃ t : Nat, 16 ≤ t ∧ t ≤ 64 ∧ i = .int .i64 t ∧ Hid (RowIs wr (w.heap.size + 1 + 1) 134 (words (schedZ blk t))) ∧ Hid (Apart (w.heap.size + 1 + 1) w3 wr)) (fun i _ => 64 - (intOf i).toNat)
      case atStart => exact ⟨16, by omega, by omega, rfl, hR, hA⟩
      case round =>
        obtain ⟨t, ht0, ht, rfl, hR, hA⟩ := hrel
        by_cases hlt : t < 64
        · obtain ⟨v, hv⟩ := schedZ_at blk t (by omega)
          have hcell : wr.cell? ⟨w.heap.size + 1 + 1, t, none⟩ = some v := (hR.out.cell t).trans hv
          have hfr := hR.out.frozen t
          have c15 := (hR.out.cell (t - 15)).trans (schedZ_get blk t (t - 15) (by omega))
          have c2 := (hR.out.cell (t - 2)).trans (schedZ_get blk t (t - 2) (by omega))
          have c16 := (hR.out.cell (t - 16)).trans (schedZ_get blk t (t - 16) (by omega))
          have c7 := (hR.out.cell (t - 7)).trans (schedZ_get blk t (t - 7) (by omega))
          have hsx : Chart.sched blk (t + 1) = Chart.sched blk t ++ [(((Chart.sched blk t).getD (t - 16) 0 + Chart.sig0 ((Chart.sched blk t).getD (t - 15) 0)) + (Chart.sched blk t).getD (t - 7) 0) + Chart.sig1 ((Chart.sched blk t).getD (t - 2) 0)] := by
            rw [Chart.sched]; simp only [show ¬ t < 16 by omega, if_false]
          obtain ⟨x15, hx15⟩ : ∃ x, x = (Chart.sched blk t).getD (t - 15) 0 := ⟨_, rfl⟩
          obtain ⟨x2, hx2⟩ : ∃ x, x = (Chart.sched blk t).getD (t - 2) 0 := ⟨_, rfl⟩
          obtain ⟨x16, hx16⟩ : ∃ x, x = (Chart.sched blk t).getD (t - 16) 0 := ⟨_, rfl⟩
          obtain ⟨x7, hx7⟩ : ∃ x, x = (Chart.sched blk t).getD (t - 7) 0 := ⟨_, rfl⟩
          rw [← hx15] at hsx c15; rw [← hx2] at hsx c2; rw [← hx16] at hsx c16; rw [← hx7] at hsx c7
          clear hx15 hx2 hx16 hx7
          have Hsx := Lib.hid hsx; clear hsx
          clear hv
          have i15 : (0 : Int) ≤ (t : Int) - 15 ∧ (t : Int) - 15 < 64 := by omega
          have i2 : (0 : Int) ≤ (t : Int) - 2 ∧ (t : Int) - 2 < 64 := by omega
          go_upto_block 3 with fail
          go_cut [7] (fun i w' => i = .int .i64 (t : Int) ∧ RowIs w' (w.heap.size + 1 + 1) 134 (words (schedZ blk (t + 1))) ∧ Apart (w.heap.size + 1 + 1) w3 w')
          case first =>
            go_wp2_with fail
            obtain ⟨d16, hd16⟩ : ∃ d : Nat, d = t - 16 := ⟨_, rfl⟩
            obtain ⟨d7, hd7⟩ : ∃ d : Nat, d = t - 7 := ⟨_, rfl⟩
            rw [← hd16] at c16; rw [← hd7] at c7
            have e16 : IntKind.i64.wrap ((t : Int) - 16) = (d16 : Int) := (wrap_i64_small' (by omega) (by omega)).trans (by omega)
            have e7 : IntKind.i64.wrap ((t : Int) - 7) = (d7 : Int) := (wrap_i64_small' (by omega) (by omega)).trans (by omega)
            have b16 : (d16 : Int) < 64 := by omega
            have b7 : (d7 : Int) < 64 := by omega
            have n16 : d16 ≠ t := by omega
            have n7 : d7 ≠ t := by omega
            have Hd16 := Lib.hid hd16; clear hd16
            have Hd7 := Lib.hid hd7; clear hd7
            go_region_held3 (fun w' => w'.cell? ⟨w.heap.size + 1 + 1, d16, none⟩ = some (.int .u32 (tn x16)) ∧ w'.cell? ⟨w.heap.size + 1 + 1, d7, none⟩ = some (.int .u32 (tn x7))) (first | exact ⟨c16, c7⟩ | exact ⟨(cell_set_off n16 _ _ _).trans c16, (cell_set_off n7 _ _ _).trans c7⟩ | go_keep)
              (first
                | (go_at_call 105
                   refine (ror_any _ _ (by decide) (by decide) _).mono ?_
                   rintro e wq ⟨rfl, mq, rfl⟩))
            all_goals
              go_wp2_with fail
              go_meet
              refine ⟨rfl, ?_, ?_⟩
              · rw [← schedZ_set blk t (by omega) _ Hsx.out]
                exact RowIs.set (show RowIs _ _ _ _ from hR.out) _ _
              · refine Apart.trans ?_ (Apart.setCell _ _ _ _)
                exact hA.out.trans ⟨rfl, rfl, rfl, Nat.le_refl _, fun _ _ _ => rfl⟩
          case rest =>
            obtain ⟨rfl, hR2, hA2⟩ := hcut
            have hR2 := Lib.hid hR2; have hA2 := Lib.hid hA2
            clear hcell hfr c15 c2 c16 c7 hR hA
            go_wp2_with fail
            exact ⟨⟨t + 1, by omega, by omega, by go_num, hR2, hA2⟩, by simp [intOf]; omega⟩
        · obtain rfl : t = 64 := by omega
          go_wp2_with fail
          go_meet
          exact ⟨hA.out, hR.out⟩
    case rest =>
      obtain ⟨hA, hR⟩ := hcut
      have hs2 := F1.out.1
      have hs3 := F1.out.2
      have q1 := (F0.out.2.1.apart hA (by omega))
      have qz := (F0.out.2.2.1.apart hA (by omega))
      have qB : Below w.heap.size w wc := hA.below F0.out.1 (by omega) F0.out.1.size
      have HH := Lib.hid (And.intro q1 (And.intro qz (And.intro hR qB)))
      clear hA hR q1 qz qB hs2 hs3
      obtain ⟨m, hm⟩ : ∃ m, m = numL := ⟨_, rfl⟩
      have hml : m.length = 64 := by rw [hm]; rfl
      have hm1 : ∀ v ∈ m, v.oneCell' = true := by rw [hm]; exact oneCell_numL
      have CN := rnumbers_any wc
      rw [← hm] at CN
      replace CN := Lib.hid CN
      have Hm := Lib.hid hm
      clear hm
      go_wp2_with fail
      refine CN.out.mono ?_
      rintro e w5 ⟨rfl, hB5⟩
      obtain ⟨w6, E6, hR6, hB6⟩ := fresh_store (P := Tryz.prog) w5 134 #[.int .u32 0, .int .u32 0, .int .u32 0, .int .u32 0, .int .u32 0, .int .u32 0, .int .u32 0, .int .u32 0, .int .u32 0, .int .u32 0, .int .u32 0, .int .u32 0, .int .u32 0, .int .u32 0, .int .u32 0, .int .u32 0, .int .u32 0, .int .u32 0, .int .u32 0, .int .u32 0, .int .u32 0, .int .u32 0, .int .u32 0, .int .u32 0, .int .u32 0, .int .u32 0, .int .u32 0, .int .u32 0, .int .u32 0, .int .u32 0, .int .u32 0, .int .u32 0, .int .u32 0, .int .u32 0, .int .u32 0, .int .u32 0, .int .u32 0, .int .u32 0, .int .u32 0, .int .u32 0, .int .u32 0, .int .u32 0, .int .u32 0, .int .u32 0, .int .u32 0, .int .u32 0, .int .u32 0, .int .u32 0, .int .u32 0, .int .u32 0, .int .u32 0, .int .u32 0, .int .u32 0, .int .u32 0, .int .u32 0, .int .u32 0, .int .u32 0, .int .u32 0, .int .u32 0, .int .u32 0, .int .u32 0, .int .u32 0, .int .u32 0, .int .u32 0] m (by rw [hml]; rfl) hm1
      have q1 := (HH.out.1.below hB5 HH.out.1.lt).below hB6 (Nat.lt_of_lt_of_le HH.out.1.lt hB5.size)
      have qz := (HH.out.2.1.below hB5 HH.out.2.1.lt).below hB6 (Nat.lt_of_lt_of_le HH.out.2.1.lt hB5.size)
      have qw := (HH.out.2.2.1.below hB5 HH.out.2.2.1.lt).below hB6 (Nat.lt_of_lt_of_le HH.out.2.2.1.lt hB5.size)
      have qB := HH.out.2.2.2.trans ((hB5.mono HH.out.2.2.2.size).trans (hB6.mono (Nat.le_trans HH.out.2.2.2.size hB5.size)))
      rw [Hm.out] at hR6
      have c0 := (q1.cell 0).trans (show _ = some (u32v s.a) from rfl)
      have c1 := (q1.cell 1).trans (show _ = some (u32v s.b) from rfl)
      have c2 := (q1.cell 2).trans (show _ = some (u32v s.c) from rfl)
      have c3 := (q1.cell 3).trans (show _ = some (u32v s.d) from rfl)
      have c4 := (q1.cell 4).trans (show _ = some (u32v s.e) from rfl)
      have c5 := (q1.cell 5).trans (show _ = some (u32v s.f) from rfl)
      have c6 := (q1.cell 6).trans (show _ = some (u32v s.g) from rfl)
      have c7 := (q1.cell 7).trans (show _ = some (u32v s.h) from rfl)
      have H6 := Lib.hid (And.intro qB (And.intro qz (And.intro qw (And.intro hR6 q1))))
      clear q1 qz qw qB hR6 hB5 hB6 CN HH
      go_upto_region 13 with fail
      clear E6
      go_quiet (fail)
      obtain ⟨w7, hw7⟩ : ∃ x, x = w6.drewN nq := ⟨_, rfl⟩
      rw [← hw7]
      have H7 : Hid (Apart 0 w6 w7 ∧ w7.heap = w6.heap) := Lib.hid ⟨by rw [hw7]; exact Apart.drewN _ _ _, by rw [hw7]; rfl⟩
      clear hw7 c0 c1 c2 c3 c4 c5 c6 c7
      go_upto_block 4 with fail
      go_cut [11, 12, 13, 14, 15, 16, 17, 18, 19] (fun a b c d e f g h _ wr => Apart 0 w7 wr ∧ wr.heap = w7.heap ∧ a = u32v (Chart.rounds blk s 64).a ∧ b = u32v (Chart.rounds blk s 64).b ∧ c = u32v (Chart.rounds blk s 64).c ∧ d = u32v (Chart.rounds blk s 64).d ∧ e = u32v (Chart.rounds blk s 64).e ∧ f = u32v (Chart.rounds blk s 64).f ∧ g = u32v (Chart.rounds blk s 64).g ∧ h = u32v (Chart.rounds blk s 64).h)
      case first =>
        go_wp2_with fail
        go_loopw [11, 12, 13, 14, 15, 16, 17, 18, 19] (fun a b c d e f g h i wr => ∃ t : Nat, t ≤ 64 ∧ i = .int .i64 t ∧ Hid (Apart 0 w7 wr ∧ wr.heap = w7.heap) ∧ ∃ st : Chart.St, Hid (st = Chart.rounds blk s t) ∧ a = u32v st.a ∧ b = u32v st.b ∧ c = u32v st.c ∧ d = u32v st.d ∧ e = u32v st.e ∧ f = u32v st.f ∧ g = u32v st.g ∧ h = u32v st.h) (fun _ _ _ _ _ _ _ _ i _ => 64 - (intOf i).toNat)
        case atStart => exact ⟨0, by omega, rfl, Lib.hid ⟨Apart.refl _ _, rfl⟩, s, Lib.hid rfl, rfl, rfl, rfl, rfl, rfl, rfl, rfl, rfl⟩
        case round =>
          obtain ⟨t, ht, rfl, hA, st, hst, rfl, rfl, rfl, rfl, rfl, rfl, rfl, rfl⟩ := hrel
          by_cases hlt : t < 64
          · have hheap : wr.heap = w6.heap := hA.out.2.trans H7.out.2
            have hw : wr.cell? ⟨w.heap.size + 1 + 1, t, none⟩ = some (.int .u32 (tn ((Chart.sched blk 64).getD t 0))) := by
              have := (H6.out.2.2.1.cell t).trans (schedZ_get blk 64 t hlt)
              rw [← this]; simp only [World.cell?, hheap]
            have hk : wr.cell? ⟨w5.heap.size, t, none⟩ = some (.int .u32 (tn (Chart.kAt t))) := by
              have := (H6.out.2.2.2.1.cell t).trans (numL_get t hlt)
              rw [← this]; simp only [World.cell?, hheap]
            obtain ⟨wt, hwt⟩ : ∃ x, x = (Chart.sched blk 64).getD t 0 := ⟨_, rfl⟩
            have hnext := Lib.hid (show Chart.rounds blk s (t + 1) = Chart.stepS st (Chart.kAt t) wt by rw [hst.out, hwt]; rfl)
            rw [← hwt] at hw
            clear hwt hheap
            go_wp2_with fail
            go_quiet (exact Calls.quiet_of (ror_any _ _ (by decide) (by decide) _))
            go_wp2_with fail
            refine (ror_any _ _ (by decide) (by decide) _).mono ?_
            rintro e1 wq ⟨rfl, m1, rfl⟩
            go_wp2_with fail
            refine (ror_any _ _ (by decide) (by decide) _).mono ?_
            rintro e2 wq ⟨rfl, m2, rfl⟩
            go_wp2_with fail
            refine (ror_any _ _ (by decide) (by decide) _).mono ?_
            rintro e3 wq ⟨rfl, m3, rfl⟩
            go_wp2_with fail
            refine ⟨⟨t + 1, by omega, by go_num, Lib.hid ⟨?_, ?_⟩, Chart.stepS st (Chart.kAt t) wt, Lib.hid hnext.out.symm, ?_, rfl, rfl, rfl, ?_, rfl, rfl, rfl⟩, by simp [intOf]; omega⟩
            · exact hA.out.1.trans ⟨rfl, rfl, rfl, Nat.le_refl _, fun _ _ _ => rfl⟩
            · exact hA.out.2
            · simp only [tn_add4, tn_add2]; rfl
            · simp only [tn_add4, tn_add2]; rfl
          · obtain rfl : t = 64 := by omega
            go_wp2_with fail
            go_meet
            rw [← hst.out]
            exact ⟨hA.out.1, hA.out.2, rfl, rfl, rfl, rfl, rfl, rfl, rfl, rfl⟩
      case rest =>
        obtain ⟨hA, hH, rfl, rfl, rfl, rfl, rfl, rfl, rfl, rfl⟩ := hcut
        have hheap : wc.heap = w6.heap := hH.trans H7.out.2
        have r1 : RowIs wc w.heap.size 119 (words s.list) := by unfold RowIs; rw [hheap]; exact H6.out.2.2.2.2
        have rz : RowIs wc (w.heap.size + 1) 119 (List.replicate 8 (.int .u32 0)) := by unfold RowIs; rw [hheap]; exact H6.out.2.1
        have rB : Below w.heap.size w wc := H6.out.1.trans ⟨hA.os.trans H7.out.1.os, hA.tape.trans H7.out.1.tape, hA.output.trans H7.out.1.output, by rw [hheap]; exact Nat.le_refl _, fun k _ => by rw [hheap]⟩
        have c0 := (r1.cell 0).trans (show _ = some (u32v s.a) from rfl)
        have c1 := (r1.cell 1).trans (show _ = some (u32v s.b) from rfl)
        have c2 := (r1.cell 2).trans (show _ = some (u32v s.c) from rfl)
        have c3 := (r1.cell 3).trans (show _ = some (u32v s.d) from rfl)
        have c4 := (r1.cell 4).trans (show _ = some (u32v s.e) from rfl)
        have c5 := (r1.cell 5).trans (show _ = some (u32v s.f) from rfl)
        have c6 := (r1.cell 6).trans (show _ = some (u32v s.g) from rfl)
        have c7 := (r1.cell 7).trans (show _ = some (u32v s.h) from rfl)
        have z0 := (rz.cell 0).trans (show _ = some (Value.int .u32 0) from rfl)
        have f0 := rz.frozen 0
        have z1 := (rz.cell 1).trans (show _ = some (Value.int .u32 0) from rfl)
        have f1 := rz.frozen 1
        have z2 := (rz.cell 2).trans (show _ = some (Value.int .u32 0) from rfl)
        have f2 := rz.frozen 2
        have z3 := (rz.cell 3).trans (show _ = some (Value.int .u32 0) from rfl)
        have f3 := rz.frozen 3
        have z4 := (rz.cell 4).trans (show _ = some (Value.int .u32 0) from rfl)
        have f4 := rz.frozen 4
        have z5 := (rz.cell 5).trans (show _ = some (Value.int .u32 0) from rfl)
        have f5 := rz.frozen 5
        have z6 := (rz.cell 6).trans (show _ = some (Value.int .u32 0) from rfl)
        have f6 := rz.frozen 6
        have z7 := (rz.cell 7).trans (show _ = some (Value.int .u32 0) from rfl)
        have f7 := rz.frozen 7
        obtain ⟨v, hv⟩ : ∃ v, v = Chart.rounds blk s 64 := ⟨_, rfl⟩
        rw [← hv]
        have HR := Lib.hid (And.intro rz (And.intro rB hv))
        clear hheap r1 rz rB hv hA hH
        go_wp2_with fail
        have hfin : RowIs _ (w.heap.size + 1) 119 (words (Chart.addS s v).list) := (((((((HR.out.1.set 0 (u32v (s.a + v.a))).set 1 (u32v (s.b + v.b))).set 2 (u32v (s.c + v.c))).set 3 (u32v (s.d + v.d))).set 4 (u32v (s.e + v.e))).set 5 (u32v (s.f + v.f))).set 6 (u32v (s.g + v.g))).set 7 (u32v (s.h + v.h))
        refine bodyPost_ret (results_cell_row (d := .array 8 118) rfl _ _ (w.heap.size + 1) _ (words (Chart.addS s v).list).toArray (0, 0) rfl hfin (by kernel_rfl) rfl (by kernel_rfl)) rfl ?_
        refine ⟨by rw [HR.out.2.2]; rfl, ?_⟩
        have hle : w.heap.size ≤ w.heap.size + 1 := Nat.le_succ _
        exact below_setCell (below_setCell (below_setCell (below_setCell (below_setCell (below_setCell (below_setCell (below_setCell HR.out.2.1 hle _ _) hle _ _) hle _ _) hle _ _) hle _ _) hle _ _) hle _ _) hle _ _
end Go.Proofs.YtgklcfipgdbbgaaGreatDoor
