/- The reference's digest (chartroomref02): ror, word, the table of numbers. -/
import Derived.BigQuiet
import Derived.Test.YtejjincnghmbbaaGreatDoorM3
import Derived.Test.YtejjincnghmbbaaGreatDoorM6
namespace Go.Proofs.YtejjincnghmbbaaGreatDoor
open Go.RowKit

@[go_sem high] theorem bits_not_tn (x : BitVec 32) : bits .xor .u32 IntKind.u32.max (tn x) = tn (~~~x) := by
  have e : IntKind.u32.max = tn (BitVec.allOnes 32) := by kernel_rfl
  rw [e, bits_xor_tn]
  congr 1

theorem tn_add2 (a b : BitVec 32) : (tn a + tn b) % 4294967296 = tn (a + b) := by
  unfold tn
  rw [BitVec.toNat_add]
  omega
theorem tn_add4 (a b c d : BitVec 32) : (tn a + tn b + tn c + tn d) % 4294967296 = tn (((a + b) + c) + d) := by
  rw [← tn_add2, ← tn_add2, ← tn_add2]
  omega
theorem tn_add3 (a b c : BitVec 32) : (tn a + tn b + tn c) % 4294967296 = tn ((a + b) + c) := by
  rw [← tn_add2, ← tn_add2]
  omega

theorem ror_any (x : BitVec 32) (n : Int) (n0 : 0 ≤ n) (n1 : n ≤ 32) (w : World) :
    Calls Tryz.prog 112 #[.int .u32 (tn x), .int .i64 n] w fun e w' => e = .returned (.int .u32 (tn (Chart.ror x n.toNat))) ∧ ∃ m, w' = w.drewN m := by
  obtain ⟨a, ha⟩ : ∃ a : Nat, n = a := ⟨n.toNat, by omega⟩
  subst ha
  obtain ⟨k, hk⟩ : ∃ k, k = 32 - a := ⟨_, rfl⟩
  have e1 : (32 : Int) - (a : Int) = (k : Int) := by omega
  have h2 : (0 : Int) ≤ (k : Int) := by omega
  have e3 : IntKind.i64.wrap (k : Int) = (k : Int) := wrap_i64_small' (by omega) (by omega)
  have Hk := Lib.hid hk
  clear n1 hk
  go_enter Tryz.func112, Tryz.ntmps112
  go_wp2_with fail
  go_quiet (fail)
  go_wp2_with fail
  go_ret
  exact ⟨by rw [Int.toNat_natCast, Chart.ror, ← Hk.out]; rfl, _, rfl⟩

theorem rword_any (a b c d : UInt8) (g off n cap : Nat) (hn : 4 ≤ n) (w : World) (h0 : w.cell? ⟨g, off, none⟩ = some (u8v a)) (h1 : w.cell? ⟨g, off + 1, none⟩ = some (u8v b)) (h2 : w.cell? ⟨g, off + 2, none⟩ = some (u8v c)) (h3 : w.cell? ⟨g, off + 3, none⟩ = some (u8v d)) :
    Calls Tryz.prog 111 #[.slice (some ⟨g, off, none⟩) n cap] w fun e w' => e = .returned (.int .u32 (tn (Chart.be32 a b c d))) ∧ ∃ m, w' = w.drewN m := by
  have b0 : (0 : Int) < (n : Int) := by omega
  have b1 : (1 : Int) < (n : Int) := by omega
  have b2 : (2 : Int) < (n : Int) := by omega
  have b3 : (3 : Int) < (n : Int) := by omega
  go_enter Tryz.func111, Tryz.ntmps111
  go_wp2_with fail
  go_quiet (fail)
  go_wp2_with fail
  go_ret
  exact ⟨rfl, _, rfl⟩

/-- The making of a table of 64 words, which stands still in a walk. -/
def tabBuild (parts : Array (Nat × Value)) : Sem Value := Instr.build 128 parts
@[go_sem ↓ high] theorem build_tab_eq (parts : Array (Nat × Value)) : Instr.build 128 parts = tabBuild parts := rfl
def numL : List Value := (List.range 64).map fun t => u32v (Chart.kAt t)
theorem numL_get (t : Nat) (h : t < 64) : numL[t]? = some (u32v (Chart.kAt t)) := by simp [numL, h]
set_option maxRecDepth 100000 in
theorem run_numbers (w : World) : (tabBuild #[(0, .int .u32 1116352408), (1, .int .u32 1899447441), (2, .int .u32 3049323471), (3, .int .u32 3921009573), (4, .int .u32 961987163), (5, .int .u32 1508970993), (6, .int .u32 2453635748), (7, .int .u32 2870763221), (8, .int .u32 3624381080), (9, .int .u32 310598401), (10, .int .u32 607225278), (11, .int .u32 1426881987), (12, .int .u32 1925078388), (13, .int .u32 2162078206), (14, .int .u32 2614888103), (15, .int .u32 3248222580), (16, .int .u32 3835390401), (17, .int .u32 4022224774), (18, .int .u32 264347078), (19, .int .u32 604807628), (20, .int .u32 770255983), (21, .int .u32 1249150122), (22, .int .u32 1555081692), (23, .int .u32 1996064986), (24, .int .u32 2554220882), (25, .int .u32 2821834349), (26, .int .u32 2952996808), (27, .int .u32 3210313671), (28, .int .u32 3336571891), (29, .int .u32 3584528711), (30, .int .u32 113926993), (31, .int .u32 338241895), (32, .int .u32 666307205), (33, .int .u32 773529912), (34, .int .u32 1294757372), (35, .int .u32 1396182291), (36, .int .u32 1695183700), (37, .int .u32 1986661051), (38, .int .u32 2177026350), (39, .int .u32 2456956037), (40, .int .u32 2730485921), (41, .int .u32 2820302411), (42, .int .u32 3259730800), (43, .int .u32 3345764771), (44, .int .u32 3516065817), (45, .int .u32 3600352804), (46, .int .u32 4094571909), (47, .int .u32 275423344), (48, .int .u32 430227734), (49, .int .u32 506948616), (50, .int .u32 659060556), (51, .int .u32 883997877), (52, .int .u32 958139571), (53, .int .u32 1322822218), (54, .int .u32 1537002063), (55, .int .u32 1747873779), (56, .int .u32 1955562222), (57, .int .u32 2024104815), (58, .int .u32 2227730452), (59, .int .u32 2361852424), (60, .int .u32 2428436474), (61, .int .u32 2756734187), (62, .int .u32 3204031479), (63, .int .u32 3329325298)]).run Tryz.prog w = .ok (.agg numL.toArray) w := by kernel_rfl
set_option maxRecDepth 100000 in
theorem run_zeros64 (w : World) : (tabBuild #[]).run Tryz.prog w = .ok (.agg (words (schedZ [] 0)).toArray) w := by kernel_rfl
theorem schedZ_zero (blk : List UInt8) : schedZ blk 0 = schedZ [] 0 := rfl
theorem oneCell_words (l : List (BitVec 32)) : ∀ v ∈ words l, v.oneCell' = true := by
  intro v hv
  simp only [words, List.mem_map] at hv
  obtain ⟨x, _, rfl⟩ := hv
  rfl
theorem oneCell_numL : ∀ v ∈ numL, v.oneCell' = true := by
  intro v hv
  simp only [numL, List.mem_map] at hv
  obtain ⟨x, _, rfl⟩ := hv
  rfl

set_option maxRecDepth 100000 in
theorem rnumbers_any (w : World) : Calls Tryz.prog 113 #[] w fun e w' => e = .returned (.agg numL.toArray) ∧ Below w.heap.size w w' := by
  have hb := run_numbers
  obtain ⟨n, hn⟩ : ∃ n, n = numL := ⟨_, rfl⟩
  have hnl : n.length = 64 := by rw [hn]; rfl
  have hn1 : ∀ v ∈ n, v.oneCell' = true := by rw [hn]; exact oneCell_numL
  rw [← hn] at hb ⊢
  clear hn
  obtain ⟨w3, E3, hR3, hB3⟩ := fresh_store (P := Tryz.prog) w 128 #[.int .u32 0, .int .u32 0, .int .u32 0, .int .u32 0, .int .u32 0, .int .u32 0, .int .u32 0, .int .u32 0, .int .u32 0, .int .u32 0, .int .u32 0, .int .u32 0, .int .u32 0, .int .u32 0, .int .u32 0, .int .u32 0, .int .u32 0, .int .u32 0, .int .u32 0, .int .u32 0, .int .u32 0, .int .u32 0, .int .u32 0, .int .u32 0, .int .u32 0, .int .u32 0, .int .u32 0, .int .u32 0, .int .u32 0, .int .u32 0, .int .u32 0, .int .u32 0, .int .u32 0, .int .u32 0, .int .u32 0, .int .u32 0, .int .u32 0, .int .u32 0, .int .u32 0, .int .u32 0, .int .u32 0, .int .u32 0, .int .u32 0, .int .u32 0, .int .u32 0, .int .u32 0, .int .u32 0, .int .u32 0, .int .u32 0, .int .u32 0, .int .u32 0, .int .u32 0, .int .u32 0, .int .u32 0, .int .u32 0, .int .u32 0, .int .u32 0, .int .u32 0, .int .u32 0, .int .u32 0, .int .u32 0, .int .u32 0, .int .u32 0, .int .u32 0] n (by rw [hnl]; rfl) hn1
  go_enter Tryz.func113, Tryz.ntmps113
  go_wp2_with fail
  refine bodyPost_ret (results_cell_row (d := .array 64 111) rfl _ _ w.heap.size _ n.toArray (0, 0) rfl hR3 (by kernel_rfl) rfl (by rw [List.size_toArray, hnl]; kernel_rfl)) rfl ?_
  exact ⟨rfl, hB3⟩
end Go.Proofs.YtejjincnghmbbaaGreatDoor
