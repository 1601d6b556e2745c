/- Keys and capsules held against each other. -/
import Derived.Stop.BytesEq
import Derived.Test.YtejjincnghmbbaaGreatDoorM20
import Derived.Test.YtejjincnghmbbaaGreatDoorM22
import Derived.Test.YtejjincnghmbbaaGreatDoorM23
import Derived.Test.YtejjincnghmbbaaGreatDoorM24
namespace Go.Proofs.YtejjincnghmbbaaGreatDoor
open Go.RowKit

/-- '==' at two keys, and at two capsules: each stands still in a walk and waits for an equation. -/
def eqlKey (x y : Array Value) : Sem Value := binOp .eql 23 (.agg x) (.agg y)
def eqlCap (x y : Array Value) : Sem Value := binOp .eql 25 (.agg x) (.agg y)
@[go_sem high] theorem eql_key_eq (x y : Array Value) : binOp .eql 23 (.agg x) (.agg y) = eqlKey x y := rfl
@[go_sem high] theorem eql_cap_eq (x y : Array Value) : binOp .eql 25 (.agg x) (.agg y) = eqlCap x y := rfl

theorem size_byte (w : World) : (sizeOf 5).run Tryz.prog w = .ok 1 w := by
  obtain ⟨i, hi, -, hs, -⟩ := byte_info
  simp [sizeOf, typeInfo, hi, hs]

theorem run_eqlKey (l m : List UInt8) (hl : l.length = 32) (hm : m.length = 32) (w : World) : (eqlKey (l.map u8v).toArray (m.map u8v).toArray).run Tryz.prog w = .ok (.bool (l == m)) w :=
  run_eql_bytes w 23 5 32 (by kernel_rfl) (by kernel_rfl) size_byte l m hl hm

theorem cap_extract (a b : Int) (pad : List UInt8) (hp : pad.length = 32) : (capV a b pad).toArray.extract 2 34 = (pad.map u8v).toArray := by
  rw [List.extract_toArray]
  congr 1
  show ((pad.map u8v).drop 0).take 32 = _
  rw [List.drop_zero, List.take_of_length_le (by rw [List.length_map, hp]; exact Nat.le_refl _)]

theorem run_eqlCap (a b a' b' : Int) (p p' : List UInt8) (hp : p.length = 32) (hp' : p'.length = 32) (w : World) :
    (eqlCap (capV a b p).toArray (capV a' b' p').toArray).run Tryz.prog w = .ok (.bool (a == a' && (b == b' && p == p'))) w := by
  have h1 : ∀ w, (part 3 (capV a b p).toArray 0).run Tryz.prog w = .ok (.int .i64 a) w := fun w => by simp [part, isAgg_int .i64 (show Tryz.prog.underlying 3 = _ by kernel_rfl), capV]
  have h2 : ∀ w, (part 3 (capV a b p).toArray 1).run Tryz.prog w = .ok (.int .i64 b) w := fun w => by simp [part, isAgg_int .i64 (show Tryz.prog.underlying 3 = _ by kernel_rfl), capV]
  have h3 : ∀ w, (part 3 (capV a' b' p').toArray 0).run Tryz.prog w = .ok (.int .i64 a') w := fun w => by simp [part, isAgg_int .i64 (show Tryz.prog.underlying 3 = _ by kernel_rfl), capV]
  have h4 : ∀ w, (part 3 (capV a' b' p').toArray 1).run Tryz.prog w = .ok (.int .i64 b') w := fun w => by simp [part, isAgg_int .i64 (show Tryz.prog.underlying 3 = _ by kernel_rfl), capV]
  have ha : ∀ w, (isAgg 23).run Tryz.prog w = .ok true w := fun w => by kernel_rfl
  have hs : ∀ w, (sizeOf 23).run Tryz.prog w = .ok 32 w := fun w => by kernel_rfl
  have h5 : ∀ w, (part 23 (capV a b p).toArray 2).run Tryz.prog w = .ok (.agg (p.map u8v).toArray) w := fun w => by
    simp only [part, Sem.run_bind, ha, Result.andThen_ok, if_true, hs, Sem.run_pure]
    rw [cap_extract a b p hp]
  have h6 : ∀ w, (part 23 (capV a' b' p').toArray 2).run Tryz.prog w = .ok (.agg (p'.map u8v).toArray) w := fun w => by
    simp only [part, Sem.run_bind, ha, Result.andThen_ok, if_true, hs, Sem.run_pure]
    rw [cap_extract a' b' p' hp']
  have hk : ∀ d w, (Op.equalIn (d + 2) 23 (.agg (p.map u8v).toArray) (.agg (p'.map u8v).toArray)).run Tryz.prog w = .ok (p == p') w := fun d w =>
    run_equalIn_bytes w d 23 5 32 (by kernel_rfl) (by kernel_rfl) size_byte p p' hp hp'
  have hi : ∀ d (x y : Int) w, (Op.equalIn (d + 1) 3 (.int .i64 x) (.int .i64 y)).run Tryz.prog w = .ok (x == y) w := fun d x y w => run_equalIn_int w d _ .i64 .i64 x y (by kernel_rfl)
  unfold eqlCap
  rw [run_eql_struct, run_equalIn_struct w 9999 25 _ _ (by kernel_rfl) (by kernel_rfl)]
  obtain ⟨f, hf⟩ : ∃ f, f = (Tryz.prog.fieldsOf 25).toList := ⟨_, rfl⟩
  have hfs : f.map (fun f => (f.name, f.type, f.offset)) = [("A", 3, 0), ("B", 3, 1), ("Pad", 23, 2)] := by rw [hf]; kernel_rfl
  rw [← hf]
  clear hf
  have hlen : f.length = 3 := by simpa using congrArg List.length hfs
  match f, hlen, hfs with
  | [f0, f1, f2], _, hfs =>
    simp only [List.map_cons, List.map_nil, List.cons.injEq, Prod.mk.injEq, and_true] at hfs
    obtain ⟨⟨n0, t0, o0⟩, ⟨n1, t1, o1⟩, ⟨n2, t2, o2⟩⟩ := hfs
    simp [Op.eqFields, n0, t0, o0, n1, t1, o1, n2, t2, o2, h1, h2, h3, h4, h5, h6, hk 9997, hi 9998]
    by_cases e1 : a = a' <;> by_cases e2 : b = b' <;> by_cases e3 : p = p' <;> simp [e1, e2, e3]
end Go.Proofs.YtejjincnghmbbaaGreatDoor

/- Lock, Open, Turn and Check in exponents; ref.Key. -/
namespace Go.Proofs.YtejjincnghmbbaaGreatDoor
open Go.RowKit

/-- The capsule of a key for the public key of x. -/
def capE (x : Nat) (k seed : List UInt8) : List Value := capV ((Chart.E (x * lockR seed) : Nat) : Int) ((Chart.E (lockS seed + lockR seed) : Nat) : Int) (Chart.comb k (Chart.E (lockS seed)))
theorem grp_E (k : Nat) : Grp (Chart.E k) := Chart.E_elem k
theorem capE_length (x : Nat) {k seed : List UInt8} (h : k.length = 32) : (capE x k seed).length = 34 := capV_length _ _ (Chart.comb_length h _)
theorem capE_one (x : Nat) (k seed : List UInt8) : ∀ v ∈ capE x k seed, v.oneCell' = true := oneCell_cap _ _ _

theorem base_E (k : Nat) (hk : k < Chart.Q) (w : World) :
    Calls Tryz.prog 11 #[.int .i64 k] w fun e w' => e = two ((Chart.E k : Nat) : Int) 0 ∧ Below w.heap.size w w' := gbase_ok k hk w

theorem lock_E (x : Nat) (k seed : List UInt8) (hk : k.length = 32) (hs : seed.length = 32) (w : World) (hl : Laid w) :
    Calls Tryz.prog 5 #[.int .i64 (Chart.E x : Nat), .agg (k.map u8v).toArray, .agg (seed.map u8v).toArray] w fun e w' =>
      e = .returned (.tuple #[.agg (capE x k seed).toArray, .int .i64 0]) ∧ Below w.heap.size w w' := by
  have h := lock_ok (Chart.E x) k seed hk hs (grp_E x) w hl
  rw [show Chart.E x ^ lockR seed % PP = Chart.E (x * lockR seed) from Chart.E_pow _ _] at h
  exact h

theorem open_E (x : Nat) (k seed : List UInt8) (hk : k.length = 32) (hx0 : 0 < x) (hx : x < Chart.Q) (w : World) (hl : Laid w) :
    Calls Tryz.prog 7 #[.int .i64 x, .agg (capE x k seed).toArray] w fun e w' =>
      e = .returned (.tuple #[.agg (k.map u8v).toArray, .int .i64 0]) ∧ Below w.heap.size w w' := by
  have h := open_ok x (Chart.E (x * lockR seed)) (Chart.E (lockS seed + lockR seed)) (Chart.comb k (Chart.E (lockS seed))) (Chart.comb_length hk _) hx0 hx (grp_E _) (grp_E _) w hl
  rw [Chart.found_own hx0 hx, Chart.comb_comb hk] at h
  exact h

/-- What another private key finds. -/
def otherE (y x : Nat) (seed : List UInt8) : Nat := Chart.found y (Chart.E (x * lockR seed)) (Chart.E (lockS seed + lockR seed))
theorem open_other (y x : Nat) (k seed : List UInt8) (hk : k.length = 32) (hy0 : 0 < y) (hy : y < Chart.Q) (w : World) (hl : Laid w) :
    Calls Tryz.prog 7 #[.int .i64 y, .agg (capE x k seed).toArray] w fun e w' =>
      e = .returned (.tuple #[.agg (bytesV (Chart.comb (Chart.comb k (Chart.E (lockS seed))) (otherE y x seed))).toArray, .int .i64 0]) ∧ Below w.heap.size w w' :=
  open_ok y (Chart.E (x * lockR seed)) (Chart.E (lockS seed + lockR seed)) (Chart.comb k (Chart.E (lockS seed))) (Chart.comb_length hk _) hy0 hy (grp_E _) (grp_E _) w hl

theorem turn_E (x y : Nat) (k seed : List UInt8) (hk : k.length = 32) (hx0 : 0 < x) (hx : x < Chart.Q) (hy0 : 0 < y) (hy : y < Chart.Q) (w : World) :
    Calls Tryz.prog 13 #[.int .i64 (Chart.factor x y : Nat), .agg (capE x k seed).toArray] w fun e w' =>
      e = .returned (.tuple #[.agg (capE y k seed).toArray, .int .i64 0]) ∧ Below w.heap.size w w' := by
  have h := turn_ok (Chart.factor x y) (Chart.E (x * lockR seed)) (Chart.E (lockS seed + lockR seed)) (Chart.comb k (Chart.E (lockS seed))) (Chart.comb_length hk _) (Chart.factor_pos hx0 hx hy0 hy) (Chart.factor_lt _ _) (grp_E _) (grp_E _) w
  rw [show Chart.E (x * lockR seed) ^ Chart.factor x y % PP = Chart.E (y * lockR seed) from Chart.turned hx0 hx _] at h
  exact h

theorem check_E (x : Nat) (k seed : List UInt8) (w : World) :
    Calls Tryz.prog 9 #[.agg (capE x k seed).toArray] w fun e w' => e = .returned (.int .i64 0) ∧ Below w.heap.size w w' :=
  pcheck_ok _ _ _ (grp_E _) (grp_E _) w

theorem not_grp_zero : ¬ IsGrp 0 := by
  rintro ⟨n, hn, h1, -, -⟩
  omega
theorem check_zero (w : World) :
    Calls Tryz.prog 9 #[.agg zeroCap.toArray] w fun e w' => e = .returned (.int .i64 110) ∧ Below w.heap.size w w' :=
  pcheck_bad 0 0 zeroPad (fun h => not_grp_zero h.1) w
end Go.Proofs.YtejjincnghmbbaaGreatDoor

/- chartroomlaw11.sane: the chapter's examples hold. -/
namespace Go.Proofs.YtejjincnghmbbaaGreatDoor
open Go.RowKit

/-- The making of a key, which stands still in a walk. -/
def keyBuild (parts : Array (Nat × Value)) : Sem Value := Instr.build 23 parts
@[go_sem ↓ high] theorem build_key_eq (parts : Array (Nat × Value)) : Instr.build 23 parts = keyBuild parts := rfl
def key7 : List UInt8 := 7 :: List.replicate 31 0
def key8 : List UInt8 := 8 :: List.replicate 31 0
theorem key7_length : key7.length = 32 := rfl
theorem key8_length : key8.length = 32 := rfl
theorem run_key7 (w : World) : (keyBuild #[(0, .int .u8 7)]).run Tryz.prog w = .ok (.agg (key7.map u8v).toArray) w := by kernel_rfl
theorem run_key8 (w : World) : (keyBuild #[(0, .int .u8 8)]).run Tryz.prog w = .ok (.agg (key8.map u8v).toArray) w := by kernel_rfl
theorem run_cap0 (w : World) : (capBuild #[]).run Tryz.prog w = .ok (.agg zeroCap.toArray) w := by kernel_rfl
theorem noKey_zero : NoKey 0 := Or.inl (by decide)

set_option maxRecDepth 20000 in
set_option maxHeartbeats 4000000 in
theorem sane_ok (w : World) (hl : Laid w) : Calls Tryz.prog 4 #[] w fun e w' => e = .returned (.bool true) ∧ Below w.heap.size w w' := by
  have hb7 := run_key7
  have hb8 := run_key8
  have hb0 := run_cap0
  have CB := base_E 5 (by decide)
  have CL := lock_E 5 key7 key8 key7_length key8_length
  have CO := open_E 5 key7 key8 key7_length (by decide) (by decide)
  have CF := factor_ok 5 6 (by decide) (by decide) (by decide) (by decide)
  have CT := turn_E 5 6 key7 key8 key7_length (by decide) (by decide) (by decide) (by decide)
  have CP := open_E 6 key7 key8 key7_length (by decide) (by decide)
  have CL0 := lock_bad 0 key7 key8 not_grp_zero
  have CO0 : ∀ w, Calls Tryz.prog 7 #[.int .i64 0, .agg (capE 5 key7 key8).toArray] w fun e w' => e = .returned (.tuple #[.agg zeroKey.toArray, .int .i64 50]) ∧ Below w.heap.size w w' := open_key 0 _ _ _ (Chart.comb_length key7_length _) noKey_zero
  have COz : ∀ w, Calls Tryz.prog 7 #[.int .i64 1, .agg zeroCap.toArray] w fun e w' => e = .returned (.tuple #[.agg zeroKey.toArray, .int .i64 110]) ∧ Below w.heap.size w w' := open_cap 1 (by decide) (by decide) 0 0 zeroPad rfl (fun h => not_grp_zero h.1)
  have CF5 := factor_ok 5 5 (by decide) (by decide) (by decide) (by decide)
  rw [Chart.factor_self (by decide) (by decide)] at CF5
  have CC := check_E 5 key7 key8
  have CZ := check_zero
  have EK := run_eqlKey key7 key7 key7_length key7_length
  rw [beq_self_eq_true] at EK
  obtain ⟨a, ha⟩ : ∃ a, a = key7.map u8v := ⟨_, rfl⟩
  have hal : a.length = 32 := by rw [ha]; rfl
  have ha1 : ∀ v ∈ a, v.oneCell' = true := by rw [ha]; exact oneCell_bytes _
  obtain ⟨b, hb⟩ : ∃ a, a = key8.map u8v := ⟨_, rfl⟩
  have hbl : b.length = 32 := by rw [hb]; rfl
  have hb1 : ∀ v ∈ b, v.oneCell' = true := by rw [hb]; exact oneCell_bytes _
  obtain ⟨c, hc⟩ : ∃ a, a = capE 5 key7 key8 := ⟨_, rfl⟩
  have hcl : c.length = 34 := by rw [hc]; exact capE_length _ key7_length
  have hc1 : ∀ v ∈ c, v.oneCell' = true := by rw [hc]; exact capE_one _ _ _
  obtain ⟨d, hd⟩ : ∃ a, a = capE 6 key7 key8 := ⟨_, rfl⟩
  have hdl : d.length = 34 := by rw [hd]; exact capE_length _ key7_length
  have hd1 : ∀ v ∈ d, v.oneCell' = true := by rw [hd]; exact capE_one _ _ _
  obtain ⟨zc, hzc⟩ : ∃ a, a = zeroCap := ⟨_, rfl⟩
  have hzcl : zc.length = 34 := by rw [hzc]; rfl
  have hzc1 : ∀ v ∈ zc, v.oneCell' = true := by rw [hzc]; exact oneCell_cap _ _ _
  obtain ⟨zk, hzk⟩ : ∃ a, a = zeroKey := ⟨_, rfl⟩
  have hzkl : zk.length = 32 := by rw [hzk]; rfl
  have hzk1 : ∀ v ∈ zk, v.oneCell' = true := by rw [hzk]; exact oneCell_bytes (List.replicate 32 0)
  obtain ⟨y, hy⟩ : ∃ y, y = Chart.E 5 := ⟨_, rfl⟩
  obtain ⟨n, hn⟩ : ∃ n, n = Chart.factor 5 6 := ⟨_, rfl⟩
  rw [← ha] at hb7 CL CO CP CL0 EK
  rw [← hb] at hb8 CL CL0
  rw [← hc] at CL CO CT CO0 CC
  rw [← hd] at CT CP
  rw [← hzc] at hb0 CL0 COz CZ
  rw [← hzk] at CO0 COz
  rw [← hy] at CB CL
  rw [← hn] at CF CT
  have CB := Lib.hid CB; have CL := Lib.hid CL; have CO := Lib.hid CO; have CF := Lib.hid CF; have CT := Lib.hid CT; have CP := Lib.hid CP; have CL0 := Lib.hid CL0
  have CO0 := Lib.hid CO0; have COz := Lib.hid COz; have CF5 := Lib.hid CF5; have CC := Lib.hid CC; have CZ := Lib.hid CZ
  clear ha hb hc hd hzc hzk hy hn
  obtain ⟨w1, hw1⟩ : ∃ x, x = w.alloc (.cells #[.int .u8 0, .int .u8 0, .int .u8 0, .int .u8 0, .int .u8 0, .int .u8 0, .int .u8 0, .int .u8 0, .int .u8 0, .int .u8 0, .int .u8 0, .int .u8 0, .int .u8 0, .int .u8 0, .int .u8 0, .int .u8 0, .int .u8 0, .int .u8 0, .int .u8 0, .int .u8 0, .int .u8 0, .int .u8 0, .int .u8 0, .int .u8 0, .int .u8 0, .int .u8 0, .int .u8 0, .int .u8 0, .int .u8 0, .int .u8 0, .int .u8 0, .int .u8 0] 23) := ⟨_, rfl⟩
  obtain ⟨w2, hw2⟩ : ∃ x, x = w1.alloc (.cells #[.int .u8 0, .int .u8 0, .int .u8 0, .int .u8 0, .int .u8 0, .int .u8 0, .int .u8 0, .int .u8 0, .int .u8 0, .int .u8 0, .int .u8 0, .int .u8 0, .int .u8 0, .int .u8 0, .int .u8 0, .int .u8 0, .int .u8 0, .int .u8 0, .int .u8 0, .int .u8 0, .int .u8 0, .int .u8 0, .int .u8 0, .int .u8 0, .int .u8 0, .int .u8 0, .int .u8 0, .int .u8 0, .int .u8 0, .int .u8 0, .int .u8 0, .int .u8 0] 23) := ⟨_, rfl⟩
  have s1 : w1.heap.size = w.heap.size + 1 := by rw [hw1]; simp
  have r1 : RowIs w2 w.heap.size 23 zeroKey := by
    rw [hw2]
    refine RowIs.alloc ?_ _
    rw [hw1]; exact RowIs.new w (List.replicate 32 (u8v 0)) _
  have r2 : RowIs w2 (w.heap.size + 1) 23 zeroKey := by
    rw [hw2, ← s1]; exact RowIs.new w1 (List.replicate 32 (u8v 0)) _
  have hB : Below w.heap.size w w2 := by
    rw [hw2, hw1]; exact ((Below.refl _ w).alloc (Nat.le_refl _) _).alloc (by simp) _
  have S1 := r1.stores (P := Tryz.prog) a (by rw [hal]; rfl) ha1
  obtain ⟨w3, hw3⟩ : ∃ x, x = w2.setRow w.heap.size a.toArray := ⟨_, rfl⟩
  rw [← hw3] at S1
  have q1 : RowIs w3 w.heap.size 23 a := by rw [hw3]; exact r1.setRow _
  have q2 : RowIs w3 (w.heap.size + 1) 23 zeroKey := by rw [hw3]; exact (heap_setRow_other _ _ _ _ (by omega)).trans r2
  have qB : Below w.heap.size w w3 := by rw [hw3]; exact below_setRow hB (Nat.le_refl _) _
  have S2 := q2.stores (P := Tryz.prog) b (by rw [hbl]; rfl) hb1
  obtain ⟨w4, hw4⟩ : ∃ x, x = w3.setRow (w.heap.size + 1) b.toArray := ⟨_, rfl⟩
  rw [← hw4] at S2
  have p1 : RowIs w4 w.heap.size 23 a := by rw [hw4]; exact (heap_setRow_other _ _ _ _ (by omega)).trans q1
  have p2 : RowIs w4 (w.heap.size + 1) 23 b := by rw [hw4]; exact q2.setRow _
  have pB : Below w.heap.size w w4 := by rw [hw4]; exact below_setRow qB (by omega) _
  have F0 := Lib.hid (And.intro pB (And.intro (hl.below pB hl.numLt hl.startLt) (And.intro p1 p2)))
  clear r1 r2 hB q1 q2 qB p1 p2 pB hl s1 hw3 hw4
  go_enter Tryz.func4, Tryz.ntmps4
  rw [hw1] at hw2
  rw [hw2] at S1
  clear hw1 hw2
  go_wp2_with fail
  clear S1 S2
  refine (CB.out w4).mono ?_
  rintro e v1 ⟨rfl, hB1⟩
  have F2 := Lib.hid (And.intro (F0.out.1.trans (hB1.mono F0.out.1.size)) (And.intro (F0.out.2.1.below hB1 (Nat.lt_of_lt_of_le F0.out.2.1.numLt (Nat.le_refl _)) (Nat.lt_of_lt_of_le F0.out.2.1.startLt (Nat.le_refl _))) (And.intro (F0.out.2.2.1.below hB1 F0.out.2.2.1.lt) (F0.out.2.2.2.below hB1 F0.out.2.2.2.lt))))
  clear hB1
  have L3 := F2.out.2.2.1.loads (P := Tryz.prog) 32 hal
  have L4 := F2.out.2.2.2.loads (P := Tryz.prog) 32 hbl
  go_wp2_with fail
  refine (CL.out v1 F2.out.2.1).mono ?_
  rintro e v5 ⟨rfl, hB5⟩
  have F6 := Lib.hid (And.intro (F2.out.1.trans (hB5.mono F2.out.1.size)) (And.intro (F2.out.2.1.below hB5 (Nat.lt_of_lt_of_le F2.out.2.1.numLt (Nat.le_refl _)) (Nat.lt_of_lt_of_le F2.out.2.1.startLt (Nat.le_refl _))) (And.intro (F2.out.2.2.1.below hB5 F2.out.2.2.1.lt) (F2.out.2.2.2.below hB5 F2.out.2.2.2.lt))))
  clear hB5
  obtain ⟨v7, S7, hR7, hB7⟩ := fresh_store (P := Tryz.prog) v5 25 #[.int .i64 0, .int .i64 0, .int .u8 0, .int .u8 0, .int .u8 0, .int .u8 0, .int .u8 0, .int .u8 0, .int .u8 0, .int .u8 0, .int .u8 0, .int .u8 0, .int .u8 0, .int .u8 0, .int .u8 0, .int .u8 0, .int .u8 0, .int .u8 0, .int .u8 0, .int .u8 0, .int .u8 0, .int .u8 0, .int .u8 0, .int .u8 0, .int .u8 0, .int .u8 0, .int .u8 0, .int .u8 0, .int .u8 0, .int .u8 0, .int .u8 0, .int .u8 0, .int .u8 0, .int .u8 0] c (by rw [hcl]; rfl) hc1
  have F8 := Lib.hid (And.intro (F6.out.1.trans (hB7.mono F6.out.1.size)) (And.intro (F6.out.2.1.below hB7 (Nat.lt_of_lt_of_le F6.out.2.1.numLt (Nat.le_refl _)) (Nat.lt_of_lt_of_le F6.out.2.1.startLt (Nat.le_refl _))) (And.intro (F6.out.2.2.1.below hB7 F6.out.2.2.1.lt) (And.intro (F6.out.2.2.2.below hB7 F6.out.2.2.2.lt) hR7))))
  clear hR7 hB7
  clear L3
  clear L4
  have L9 := F8.out.2.2.2.2.loads (P := Tryz.prog) 34 hcl
  go_wp2_with fail
  clear S7
  refine (CO.out v7 F8.out.2.1).mono ?_
  rintro e v10 ⟨rfl, hB10⟩
  have F11 := Lib.hid (And.intro (F8.out.1.trans (hB10.mono F8.out.1.size)) (And.intro (F8.out.2.1.below hB10 (Nat.lt_of_lt_of_le F8.out.2.1.numLt (Nat.le_refl _)) (Nat.lt_of_lt_of_le F8.out.2.1.startLt (Nat.le_refl _))) (And.intro (F8.out.2.2.1.below hB10 F8.out.2.2.1.lt) (And.intro (F8.out.2.2.2.1.below hB10 F8.out.2.2.2.1.lt) (F8.out.2.2.2.2.below hB10 F8.out.2.2.2.2.lt)))))
  clear hB10
  obtain ⟨v12, S12, hR12, hB12⟩ := fresh_store (P := Tryz.prog) v10 23 #[.int .u8 0, .int .u8 0, .int .u8 0, .int .u8 0, .int .u8 0, .int .u8 0, .int .u8 0, .int .u8 0, .int .u8 0, .int .u8 0, .int .u8 0, .int .u8 0, .int .u8 0, .int .u8 0, .int .u8 0, .int .u8 0, .int .u8 0, .int .u8 0, .int .u8 0, .int .u8 0, .int .u8 0, .int .u8 0, .int .u8 0, .int .u8 0, .int .u8 0, .int .u8 0, .int .u8 0, .int .u8 0, .int .u8 0, .int .u8 0, .int .u8 0, .int .u8 0] a (by rw [hal]; rfl) ha1
  have F13 := Lib.hid (And.intro (F11.out.1.trans (hB12.mono F11.out.1.size)) (And.intro (F11.out.2.1.below hB12 (Nat.lt_of_lt_of_le F11.out.2.1.numLt (Nat.le_refl _)) (Nat.lt_of_lt_of_le F11.out.2.1.startLt (Nat.le_refl _))) (And.intro (F11.out.2.2.1.below hB12 F11.out.2.2.1.lt) (And.intro (F11.out.2.2.2.1.below hB12 F11.out.2.2.2.1.lt) (And.intro (F11.out.2.2.2.2.below hB12 F11.out.2.2.2.2.lt) hR12)))))
  clear hR12 hB12
  clear L9
  go_wp2_with fail
  clear S12
  refine (CF.out v12).mono ?_
  rintro e v14 ⟨rfl, hB14⟩
  have F15 := Lib.hid (And.intro (F13.out.1.trans (hB14.mono F13.out.1.size)) (And.intro (F13.out.2.1.below hB14 (Nat.lt_of_lt_of_le F13.out.2.1.numLt (Nat.le_refl _)) (Nat.lt_of_lt_of_le F13.out.2.1.startLt (Nat.le_refl _))) (And.intro (F13.out.2.2.1.below hB14 F13.out.2.2.1.lt) (And.intro (F13.out.2.2.2.1.below hB14 F13.out.2.2.2.1.lt) (And.intro (F13.out.2.2.2.2.1.below hB14 F13.out.2.2.2.2.1.lt) (F13.out.2.2.2.2.2.below hB14 F13.out.2.2.2.2.2.lt))))))
  clear hB14
  have L16 := F15.out.2.2.2.2.1.loads (P := Tryz.prog) 34 hcl
  go_wp2_with fail
  refine (CT.out v14).mono ?_
  rintro e v17 ⟨rfl, hB17⟩
  have F18 := Lib.hid (And.intro (F15.out.1.trans (hB17.mono F15.out.1.size)) (And.intro (F15.out.2.1.below hB17 (Nat.lt_of_lt_of_le F15.out.2.1.numLt (Nat.le_refl _)) (Nat.lt_of_lt_of_le F15.out.2.1.startLt (Nat.le_refl _))) (And.intro (F15.out.2.2.1.below hB17 F15.out.2.2.1.lt) (And.intro (F15.out.2.2.2.1.below hB17 F15.out.2.2.2.1.lt) (And.intro (F15.out.2.2.2.2.1.below hB17 F15.out.2.2.2.2.1.lt) (F15.out.2.2.2.2.2.below hB17 F15.out.2.2.2.2.2.lt))))))
  clear hB17
  obtain ⟨v19, S19, hR19, hB19⟩ := fresh_store (P := Tryz.prog) v17 25 #[.int .i64 0, .int .i64 0, .int .u8 0, .int .u8 0, .int .u8 0, .int .u8 0, .int .u8 0, .int .u8 0, .int .u8 0, .int .u8 0, .int .u8 0, .int .u8 0, .int .u8 0, .int .u8 0, .int .u8 0, .int .u8 0, .int .u8 0, .int .u8 0, .int .u8 0, .int .u8 0, .int .u8 0, .int .u8 0, .int .u8 0, .int .u8 0, .int .u8 0, .int .u8 0, .int .u8 0, .int .u8 0, .int .u8 0, .int .u8 0, .int .u8 0, .int .u8 0, .int .u8 0, .int .u8 0] d (by rw [hdl]; rfl) hd1
  have F20 := Lib.hid (And.intro (F18.out.1.trans (hB19.mono F18.out.1.size)) (And.intro (F18.out.2.1.below hB19 (Nat.lt_of_lt_of_le F18.out.2.1.numLt (Nat.le_refl _)) (Nat.lt_of_lt_of_le F18.out.2.1.startLt (Nat.le_refl _))) (And.intro (F18.out.2.2.1.below hB19 F18.out.2.2.1.lt) (And.intro (F18.out.2.2.2.1.below hB19 F18.out.2.2.2.1.lt) (And.intro (F18.out.2.2.2.2.1.below hB19 F18.out.2.2.2.2.1.lt) (And.intro (F18.out.2.2.2.2.2.below hB19 F18.out.2.2.2.2.2.lt) hR19))))))
  clear hR19 hB19
  clear L16
  have L21 := F20.out.2.2.2.2.2.2.loads (P := Tryz.prog) 34 hdl
  go_wp2_with fail
  clear S19
  refine (CP.out v19 F20.out.2.1).mono ?_
  rintro e v22 ⟨rfl, hB22⟩
  have F23 := Lib.hid (And.intro (F20.out.1.trans (hB22.mono F20.out.1.size)) (And.intro (F20.out.2.1.below hB22 (Nat.lt_of_lt_of_le F20.out.2.1.numLt (Nat.le_refl _)) (Nat.lt_of_lt_of_le F20.out.2.1.startLt (Nat.le_refl _))) (And.intro (F20.out.2.2.1.below hB22 F20.out.2.2.1.lt) (And.intro (F20.out.2.2.2.1.below hB22 F20.out.2.2.2.1.lt) (And.intro (F20.out.2.2.2.2.1.below hB22 F20.out.2.2.2.2.1.lt) (And.intro (F20.out.2.2.2.2.2.1.below hB22 F20.out.2.2.2.2.2.1.lt) (F20.out.2.2.2.2.2.2.below hB22 F20.out.2.2.2.2.2.2.lt)))))))
  clear hB22
  obtain ⟨v24, S24, hR24, hB24⟩ := fresh_store (P := Tryz.prog) v22 23 #[.int .u8 0, .int .u8 0, .int .u8 0, .int .u8 0, .int .u8 0, .int .u8 0, .int .u8 0, .int .u8 0, .int .u8 0, .int .u8 0, .int .u8 0, .int .u8 0, .int .u8 0, .int .u8 0, .int .u8 0, .int .u8 0, .int .u8 0, .int .u8 0, .int .u8 0, .int .u8 0, .int .u8 0, .int .u8 0, .int .u8 0, .int .u8 0, .int .u8 0, .int .u8 0, .int .u8 0, .int .u8 0, .int .u8 0, .int .u8 0, .int .u8 0, .int .u8 0] a (by rw [hal]; rfl) ha1
  have F25 := Lib.hid (And.intro (F23.out.1.trans (hB24.mono F23.out.1.size)) (And.intro (F23.out.2.1.below hB24 (Nat.lt_of_lt_of_le F23.out.2.1.numLt (Nat.le_refl _)) (Nat.lt_of_lt_of_le F23.out.2.1.startLt (Nat.le_refl _))) (And.intro (F23.out.2.2.1.below hB24 F23.out.2.2.1.lt) (And.intro (F23.out.2.2.2.1.below hB24 F23.out.2.2.2.1.lt) (And.intro (F23.out.2.2.2.2.1.below hB24 F23.out.2.2.2.2.1.lt) (And.intro (F23.out.2.2.2.2.2.1.below hB24 F23.out.2.2.2.2.2.1.lt) (And.intro (F23.out.2.2.2.2.2.2.below hB24 F23.out.2.2.2.2.2.2.lt) hR24)))))))
  clear hR24 hB24
  clear L21
  have L26 := F25.out.2.2.1.loads (P := Tryz.prog) 32 hal
  have L27 := F25.out.2.2.2.1.loads (P := Tryz.prog) 32 hbl
  go_wp2_with fail
  clear S24
  refine (CL0.out v24).mono ?_
  rintro e v28 ⟨rfl, hB28⟩
  have F29 := Lib.hid (And.intro (F25.out.1.trans (hB28.mono F25.out.1.size)) (And.intro (F25.out.2.1.below hB28 (Nat.lt_of_lt_of_le F25.out.2.1.numLt (Nat.le_refl _)) (Nat.lt_of_lt_of_le F25.out.2.1.startLt (Nat.le_refl _))) (And.intro (F25.out.2.2.1.below hB28 F25.out.2.2.1.lt) (And.intro (F25.out.2.2.2.1.below hB28 F25.out.2.2.2.1.lt) (And.intro (F25.out.2.2.2.2.1.below hB28 F25.out.2.2.2.2.1.lt) (And.intro (F25.out.2.2.2.2.2.1.below hB28 F25.out.2.2.2.2.2.1.lt) (And.intro (F25.out.2.2.2.2.2.2.1.below hB28 F25.out.2.2.2.2.2.2.1.lt) (F25.out.2.2.2.2.2.2.2.below hB28 F25.out.2.2.2.2.2.2.2.lt))))))))
  clear hB28
  obtain ⟨v30, S30, hR30, hB30⟩ := fresh_store (P := Tryz.prog) v28 25 #[.int .i64 0, .int .i64 0, .int .u8 0, .int .u8 0, .int .u8 0, .int .u8 0, .int .u8 0, .int .u8 0, .int .u8 0, .int .u8 0, .int .u8 0, .int .u8 0, .int .u8 0, .int .u8 0, .int .u8 0, .int .u8 0, .int .u8 0, .int .u8 0, .int .u8 0, .int .u8 0, .int .u8 0, .int .u8 0, .int .u8 0, .int .u8 0, .int .u8 0, .int .u8 0, .int .u8 0, .int .u8 0, .int .u8 0, .int .u8 0, .int .u8 0, .int .u8 0, .int .u8 0, .int .u8 0] zc (by rw [hzcl]; rfl) hzc1
  have F31 := Lib.hid (And.intro (F29.out.1.trans (hB30.mono F29.out.1.size)) (And.intro (F29.out.2.1.below hB30 (Nat.lt_of_lt_of_le F29.out.2.1.numLt (Nat.le_refl _)) (Nat.lt_of_lt_of_le F29.out.2.1.startLt (Nat.le_refl _))) (And.intro (F29.out.2.2.1.below hB30 F29.out.2.2.1.lt) (And.intro (F29.out.2.2.2.1.below hB30 F29.out.2.2.2.1.lt) (And.intro (F29.out.2.2.2.2.1.below hB30 F29.out.2.2.2.2.1.lt) (And.intro (F29.out.2.2.2.2.2.1.below hB30 F29.out.2.2.2.2.2.1.lt) (And.intro (F29.out.2.2.2.2.2.2.1.below hB30 F29.out.2.2.2.2.2.2.1.lt) (And.intro (F29.out.2.2.2.2.2.2.2.below hB30 F29.out.2.2.2.2.2.2.2.lt) hR30))))))))
  clear hR30 hB30
  clear L26
  clear L27
  have L32 := F31.out.2.2.2.2.1.loads (P := Tryz.prog) 34 hcl
  go_wp2_with fail
  clear S30
  refine (CO0.out v30).mono ?_
  rintro e v33 ⟨rfl, hB33⟩
  have F34 := Lib.hid (And.intro (F31.out.1.trans (hB33.mono F31.out.1.size)) (And.intro (F31.out.2.1.below hB33 (Nat.lt_of_lt_of_le F31.out.2.1.numLt (Nat.le_refl _)) (Nat.lt_of_lt_of_le F31.out.2.1.startLt (Nat.le_refl _))) (And.intro (F31.out.2.2.1.below hB33 F31.out.2.2.1.lt) (And.intro (F31.out.2.2.2.1.below hB33 F31.out.2.2.2.1.lt) (And.intro (F31.out.2.2.2.2.1.below hB33 F31.out.2.2.2.2.1.lt) (And.intro (F31.out.2.2.2.2.2.1.below hB33 F31.out.2.2.2.2.2.1.lt) (And.intro (F31.out.2.2.2.2.2.2.1.below hB33 F31.out.2.2.2.2.2.2.1.lt) (And.intro (F31.out.2.2.2.2.2.2.2.1.below hB33 F31.out.2.2.2.2.2.2.2.1.lt) (F31.out.2.2.2.2.2.2.2.2.below hB33 F31.out.2.2.2.2.2.2.2.2.lt)))))))))
  clear hB33
  obtain ⟨v35, S35, hR35, hB35⟩ := fresh_store (P := Tryz.prog) v33 23 #[.int .u8 0, .int .u8 0, .int .u8 0, .int .u8 0, .int .u8 0, .int .u8 0, .int .u8 0, .int .u8 0, .int .u8 0, .int .u8 0, .int .u8 0, .int .u8 0, .int .u8 0, .int .u8 0, .int .u8 0, .int .u8 0, .int .u8 0, .int .u8 0, .int .u8 0, .int .u8 0, .int .u8 0, .int .u8 0, .int .u8 0, .int .u8 0, .int .u8 0, .int .u8 0, .int .u8 0, .int .u8 0, .int .u8 0, .int .u8 0, .int .u8 0, .int .u8 0] zk (by rw [hzkl]; rfl) hzk1
  have F36 := Lib.hid (And.intro (F34.out.1.trans (hB35.mono F34.out.1.size)) (And.intro (F34.out.2.1.below hB35 (Nat.lt_of_lt_of_le F34.out.2.1.numLt (Nat.le_refl _)) (Nat.lt_of_lt_of_le F34.out.2.1.startLt (Nat.le_refl _))) (And.intro (F34.out.2.2.1.below hB35 F34.out.2.2.1.lt) (And.intro (F34.out.2.2.2.1.below hB35 F34.out.2.2.2.1.lt) (And.intro (F34.out.2.2.2.2.1.below hB35 F34.out.2.2.2.2.1.lt) (And.intro (F34.out.2.2.2.2.2.1.below hB35 F34.out.2.2.2.2.2.1.lt) (And.intro (F34.out.2.2.2.2.2.2.1.below hB35 F34.out.2.2.2.2.2.2.1.lt) (And.intro (F34.out.2.2.2.2.2.2.2.1.below hB35 F34.out.2.2.2.2.2.2.2.1.lt) (And.intro (F34.out.2.2.2.2.2.2.2.2.below hB35 F34.out.2.2.2.2.2.2.2.2.lt) hR35)))))))))
  clear hR35 hB35
  clear L32
  go_wp2_with fail
  clear S35
  refine (COz.out v35).mono ?_
  rintro e v37 ⟨rfl, hB37⟩
  have F38 := Lib.hid (And.intro (F36.out.1.trans (hB37.mono F36.out.1.size)) (And.intro (F36.out.2.1.below hB37 (Nat.lt_of_lt_of_le F36.out.2.1.numLt (Nat.le_refl _)) (Nat.lt_of_lt_of_le F36.out.2.1.startLt (Nat.le_refl _))) (And.intro (F36.out.2.2.1.below hB37 F36.out.2.2.1.lt) (And.intro (F36.out.2.2.2.1.below hB37 F36.out.2.2.2.1.lt) (And.intro (F36.out.2.2.2.2.1.below hB37 F36.out.2.2.2.2.1.lt) (And.intro (F36.out.2.2.2.2.2.1.below hB37 F36.out.2.2.2.2.2.1.lt) (And.intro (F36.out.2.2.2.2.2.2.1.below hB37 F36.out.2.2.2.2.2.2.1.lt) (And.intro (F36.out.2.2.2.2.2.2.2.1.below hB37 F36.out.2.2.2.2.2.2.2.1.lt) (And.intro (F36.out.2.2.2.2.2.2.2.2.1.below hB37 F36.out.2.2.2.2.2.2.2.2.1.lt) (F36.out.2.2.2.2.2.2.2.2.2.below hB37 F36.out.2.2.2.2.2.2.2.2.2.lt))))))))))
  clear hB37
  obtain ⟨v39, S39, hR39, hB39⟩ := fresh_store (P := Tryz.prog) v37 23 #[.int .u8 0, .int .u8 0, .int .u8 0, .int .u8 0, .int .u8 0, .int .u8 0, .int .u8 0, .int .u8 0, .int .u8 0, .int .u8 0, .int .u8 0, .int .u8 0, .int .u8 0, .int .u8 0, .int .u8 0, .int .u8 0, .int .u8 0, .int .u8 0, .int .u8 0, .int .u8 0, .int .u8 0, .int .u8 0, .int .u8 0, .int .u8 0, .int .u8 0, .int .u8 0, .int .u8 0, .int .u8 0, .int .u8 0, .int .u8 0, .int .u8 0, .int .u8 0] zk (by rw [hzkl]; rfl) hzk1
  have F40 := Lib.hid (And.intro (F38.out.1.trans (hB39.mono F38.out.1.size)) (And.intro (F38.out.2.1.below hB39 (Nat.lt_of_lt_of_le F38.out.2.1.numLt (Nat.le_refl _)) (Nat.lt_of_lt_of_le F38.out.2.1.startLt (Nat.le_refl _))) (And.intro (F38.out.2.2.1.below hB39 F38.out.2.2.1.lt) (And.intro (F38.out.2.2.2.1.below hB39 F38.out.2.2.2.1.lt) (And.intro (F38.out.2.2.2.2.1.below hB39 F38.out.2.2.2.2.1.lt) (And.intro (F38.out.2.2.2.2.2.1.below hB39 F38.out.2.2.2.2.2.1.lt) (And.intro (F38.out.2.2.2.2.2.2.1.below hB39 F38.out.2.2.2.2.2.2.1.lt) (And.intro (F38.out.2.2.2.2.2.2.2.1.below hB39 F38.out.2.2.2.2.2.2.2.1.lt) (And.intro (F38.out.2.2.2.2.2.2.2.2.1.below hB39 F38.out.2.2.2.2.2.2.2.2.1.lt) (And.intro (F38.out.2.2.2.2.2.2.2.2.2.below hB39 F38.out.2.2.2.2.2.2.2.2.2.lt) hR39))))))))))
  clear hR39 hB39
  go_wp2_with fail
  clear S39
  refine (CF5.out v39).mono ?_
  rintro e v41 ⟨rfl, hB41⟩
  have F42 := Lib.hid (And.intro (F40.out.1.trans (hB41.mono F40.out.1.size)) (And.intro (F40.out.2.1.below hB41 (Nat.lt_of_lt_of_le F40.out.2.1.numLt (Nat.le_refl _)) (Nat.lt_of_lt_of_le F40.out.2.1.startLt (Nat.le_refl _))) (And.intro (F40.out.2.2.1.below hB41 F40.out.2.2.1.lt) (And.intro (F40.out.2.2.2.1.below hB41 F40.out.2.2.2.1.lt) (And.intro (F40.out.2.2.2.2.1.below hB41 F40.out.2.2.2.2.1.lt) (And.intro (F40.out.2.2.2.2.2.1.below hB41 F40.out.2.2.2.2.2.1.lt) (And.intro (F40.out.2.2.2.2.2.2.1.below hB41 F40.out.2.2.2.2.2.2.1.lt) (And.intro (F40.out.2.2.2.2.2.2.2.1.below hB41 F40.out.2.2.2.2.2.2.2.1.lt) (And.intro (F40.out.2.2.2.2.2.2.2.2.1.below hB41 F40.out.2.2.2.2.2.2.2.2.1.lt) (And.intro (F40.out.2.2.2.2.2.2.2.2.2.1.below hB41 F40.out.2.2.2.2.2.2.2.2.2.1.lt) (F40.out.2.2.2.2.2.2.2.2.2.2.below hB41 F40.out.2.2.2.2.2.2.2.2.2.2.lt)))))))))))
  clear hB41
  have L43 := F42.out.2.2.2.2.2.1.loads (P := Tryz.prog) 32 hal
  have L44 := F42.out.2.2.1.loads (P := Tryz.prog) 32 hal
  have L45 := F42.out.2.2.2.2.2.2.2.1.loads (P := Tryz.prog) 32 hal
  have L46 := F42.out.2.2.2.2.1.loads (P := Tryz.prog) 34 hcl
  go_wp2_with fail
  refine (CC.out v41).mono ?_
  rintro e v47 ⟨rfl, hB47⟩
  have F48 := Lib.hid (And.intro (F42.out.1.trans (hB47.mono F42.out.1.size)) (And.intro (F42.out.2.1.below hB47 (Nat.lt_of_lt_of_le F42.out.2.1.numLt (Nat.le_refl _)) (Nat.lt_of_lt_of_le F42.out.2.1.startLt (Nat.le_refl _))) (And.intro (F42.out.2.2.1.below hB47 F42.out.2.2.1.lt) (And.intro (F42.out.2.2.2.1.below hB47 F42.out.2.2.2.1.lt) (And.intro (F42.out.2.2.2.2.1.below hB47 F42.out.2.2.2.2.1.lt) (And.intro (F42.out.2.2.2.2.2.1.below hB47 F42.out.2.2.2.2.2.1.lt) (And.intro (F42.out.2.2.2.2.2.2.1.below hB47 F42.out.2.2.2.2.2.2.1.lt) (And.intro (F42.out.2.2.2.2.2.2.2.1.below hB47 F42.out.2.2.2.2.2.2.2.1.lt) (And.intro (F42.out.2.2.2.2.2.2.2.2.1.below hB47 F42.out.2.2.2.2.2.2.2.2.1.lt) (And.intro (F42.out.2.2.2.2.2.2.2.2.2.1.below hB47 F42.out.2.2.2.2.2.2.2.2.2.1.lt) (F42.out.2.2.2.2.2.2.2.2.2.2.below hB47 F42.out.2.2.2.2.2.2.2.2.2.2.lt)))))))))))
  clear hB47
  clear L43
  clear L44
  clear L45
  clear L46
  go_wp2_with fail
  refine (CZ.out v47).mono ?_
  rintro e v49 ⟨rfl, hB49⟩
  have F50 := Lib.hid (And.intro (F48.out.1.trans (hB49.mono F48.out.1.size)) (And.intro (F48.out.2.1.below hB49 (Nat.lt_of_lt_of_le F48.out.2.1.numLt (Nat.le_refl _)) (Nat.lt_of_lt_of_le F48.out.2.1.startLt (Nat.le_refl _))) (And.intro (F48.out.2.2.1.below hB49 F48.out.2.2.1.lt) (And.intro (F48.out.2.2.2.1.below hB49 F48.out.2.2.2.1.lt) (And.intro (F48.out.2.2.2.2.1.below hB49 F48.out.2.2.2.2.1.lt) (And.intro (F48.out.2.2.2.2.2.1.below hB49 F48.out.2.2.2.2.2.1.lt) (And.intro (F48.out.2.2.2.2.2.2.1.below hB49 F48.out.2.2.2.2.2.2.1.lt) (And.intro (F48.out.2.2.2.2.2.2.2.1.below hB49 F48.out.2.2.2.2.2.2.2.1.lt) (And.intro (F48.out.2.2.2.2.2.2.2.2.1.below hB49 F48.out.2.2.2.2.2.2.2.2.1.lt) (And.intro (F48.out.2.2.2.2.2.2.2.2.2.1.below hB49 F48.out.2.2.2.2.2.2.2.2.2.1.lt) (F48.out.2.2.2.2.2.2.2.2.2.2.below hB49 F48.out.2.2.2.2.2.2.2.2.2.2.lt)))))))))))
  clear hB49
  go_wp2_with fail
  go_ret
  exact ⟨rfl, F50.out.1⟩
end Go.Proofs.YtejjincnghmbbaaGreatDoor
