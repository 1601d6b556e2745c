/- Keys read as data: what an argument of these types is, and that its reading stands in every world. -/
import Derived.OpenShut
import Derived.ProofKit
import Derived.Deep.Strs
import Derived.Deep.DeepHandedRow
import Derived.Deep.DeepWitnessRowRef
import Derived.Lib.LaidTab
import Derived.Stop.LaidErr
import Derived.Test.YtgklcfipgdbbgaaGreatDoorM2
import Derived.Test.YtgklcfipgdbbgaaGreatDoorCards
import Derived.Test.YtgklcfipgdbbgaaGreatDoorTie
import Derived.Test.YtgklcfipgdbbgaaGreatDoorM8
namespace Go.Proofs.YtgklcfipgdbbgaaGreatDoor
open Go.RowKit Go.ChangeShapes

theorem mapM_ok {α β : Type} {f : α → Option β} : ∀ {l : List α} {r : List β}, l.length = r.length → (∀ (i : Nat) (a : α), l[i]? = some a → f a = r[i]?) → l.mapM f = some r
  | [], [], _, _ => rfl
  | a :: l, b :: r, hl, h => by
    have h0 : f a = some b := h 0 a rfl
    have ih := mapM_ok (f := f) (l := l) (r := r) (by simpa using hl) (fun i x hx => h (i + 1) x hx)
    rw [List.mapM_cons, h0, ih]
    rfl
  | [], _ :: _, hl, _ => by simp at hl
  | _ :: _, [], hl, _ => by simp at hl

/-- Bytes as data. -/
def byteD {H : Type} (l : List UInt8) : DataW H := .agg (l.map fun c => .lit (.int .u8 (bn c)))

theorem wf_bn (c : UInt8) : (Lit.int .u8 (bn c)).wf = true := by
  have h1 := bn_nonneg c; have h2 := bn_lt c
  simp [Lit.wf, IntKind.min, IntKind.max, IntKind.signed, IntKind.bits]
  omega

section
variable {H : Type} {enc : TypeId × Value → H} {w : World} {base : Nat} {spare : Nat → Bool} {held : Bool}

theorem trod_bytes {t : TypeId} {n : Nat} (ht : Tryz.prog.underlying t = some (.array n 5)) (hc : Tryz.prog.cellsOf t = n) (l : List UInt8) (hl : l.length = n) (m : Nat) :
    DataW.trod enc Tryz.prog w base spare held (m + 2) t (l.map u8v) = some (byteD l, []) := by
  have hc1 : Tryz.prog.cellsOf 5 = 1 := by kernel_rfl
  have hu : Tryz.prog.underlying 5 = some (.int .u8) := by kernel_rfl
  unfold DataW.trod
  rw [ht]
  simp only [hc, List.length_map, hl, if_true, hc1, Nat.mul_one]
  have key : (List.range n).mapM (fun i => DataW.trod enc Tryz.prog w base spare held (m + 1) 5 (((l.map u8v).drop i).take 1)) = some (l.map fun c => (DataW.lit (H := H) (.int .u8 (bn c)), ([] : List MemPlace))) := by
    refine mapM_ok (by simp [hl]) (fun i a ha => ?_)
    have hi : i < n := by
      apply Classical.byContradiction
      intro hh
      rw [List.getElem?_eq_none (by simp; omega)] at ha
      simp at ha
    have hai : a = i := by
      rw [List.getElem?_range hi] at ha
      exact (Option.some.inj ha).symm
    subst hai
    have hl' : a < l.length := by omega
    have e1 : (((l.map u8v).drop a).take 1) = [u8v l[a]] := by
      rw [List.drop_eq_getElem_cons (by simpa using hl')]
      simp
    rw [e1, List.getElem?_map, List.getElem?_eq_getElem hl']
    exact trod_int_mk m hu (wf_bn _)
  rw [key]
  simp [byteD]

theorem lists_u8 : ∀ (cs : List Value) (xs : List (DataW H × List MemPlace)), cs.length = xs.length → (∀ i, i < cs.length → ∃ c : UInt8, cs[i]? = some (u8v c) ∧ xs[i]? = some (DataW.lit (.int .u8 (bn c)), [])) →
    ∃ l : List UInt8, cs = l.map u8v ∧ xs = l.map (fun c => (DataW.lit (H := H) (.int .u8 (bn c)), ([] : List MemPlace)))
  | [], [], _, _ => ⟨[], rfl, rfl⟩
  | v :: cs, y :: xs, hl, h => by
    obtain ⟨l, h2, h3⟩ := lists_u8 cs xs (by simpa using hl) (fun i hi => by simpa using h (i + 1) (by simpa using hi))
    obtain ⟨c, h4, h5⟩ := h 0 (by simp)
    simp only [List.getElem?_cons_zero, Option.some.injEq] at h4 h5
    exact ⟨c :: l, by rw [h4, h2]; rfl, by rw [h5, h3]; rfl⟩
  | [], _ :: _, hl, _ => by simp at hl
  | _ :: _, [], hl, _ => by simp at hl

/-- A reading of bytes, opened. -/
theorem open_bytesN {t : TypeId} {n fuel : Nat} (ht : Tryz.prog.underlying t = some (.array n 5)) (hc : Tryz.prog.cellsOf t = n) {cs : List Value} {x : DataW H × List MemPlace} (h : DataW.trod enc Tryz.prog w base spare held fuel t cs = some x) :
    ∃ l : List UInt8, l.length = n ∧ cs = l.map u8v ∧ x = (byteD l, []) := by
  have hc1 : Tryz.prog.cellsOf 5 = 1 := by kernel_rfl
  have hu : Tryz.prog.underlying 5 = some (.int .u8) := by kernel_rfl
  obtain ⟨xs, m, -, rfl, hl, hxl, hi⟩ := DataW.trod_array ht h
  rw [hc] at hl
  simp only [hc1, Nat.mul_one] at hi
  have hcell : ∀ i (hi' : i < n), ∃ c : UInt8, cs[i]? = some (u8v c) ∧ xs[i]? = some (DataW.lit (.int .u8 (bn c)), []) := by
    intro i hi'
    have hi2 : i < cs.length := by omega
    have e1 : (cs.drop i).take 1 = [cs[i]] := by
      rw [List.drop_eq_getElem_cons hi2]
      rfl
    obtain ⟨y, hy⟩ : ∃ y, xs[i]? = some y := ⟨_, List.getElem?_eq_getElem (by omega)⟩
    have h1 := hi i hi'
    rw [e1, hy] at h1
    obtain ⟨z, hz, hx, hw⟩ := DataW.trod_int hu h1
    have hb := bounds_u8 hw
    refine ⟨UInt8.ofNat z.toNat, ?_, ?_⟩
    · have hz' : cs[i] = .int .u8 z := by simpa using hz
      rw [List.getElem?_eq_getElem hi2, hz']
      have : bn (UInt8.ofNat z.toNat) = z := by unfold bn; rw [UInt8.toNat_ofNat']; omega
      rw [u8v, this]
    · have : bn (UInt8.ofNat z.toNat) = z := by unfold bn; rw [UInt8.toNat_ofNat']; omega
      rw [hy, hx, this]
  obtain ⟨l, hl1, hl2⟩ := lists_u8 cs xs (by omega) (fun i hi' => hcell i (by omega))
  have hll : l.length = n := by rw [← hl, hl1, List.length_map]
  refine ⟨l, hll, hl1, ?_⟩
  rw [hl2]
  simp [byteD]

set_option maxRecDepth 20000 in
theorem agg_cells {t : TypeId} {v : Value} {r : Reach} {b0 : Nat} (hu : (match Tryz.prog.underlying t with | some (.struct _) | some (.array _ _) => true | _ => false) = true) (hv : Value.okWide Tryz.prog w r b0 t v) : ∃ cs : Array Value, v = .agg cs := by
  unfold Value.okWide at hv
  cases h : Tryz.prog.underlying t with
  | none => simp [h] at hu
  | some d =>
    rw [h] at hu hv
    cases d <;> first | (simp at hu; done) | (obtain ⟨cs, h1, -, -⟩ := hv; exact ⟨cs, h1⟩)

set_option maxRecDepth 20000 in
/-- A key among the arguments. -/
theorem open_keyA {v : Value} {d : DataW H} {p : List MemPlace} {r : Reach} {b0 : Nat} (hv : Value.okWide Tryz.prog w r b0 24 v) (h : DataW.Trod enc Tryz.prog w base spare held 24 v d p) :
    ∃ l : List UInt8, l.length = 32 ∧ v = .agg (l.map u8v).toArray ∧ d = byteD l ∧ p = [] := by
  obtain ⟨cs, rfl⟩ := agg_cells (by rw [Tryz.underlying24]) hv
  obtain ⟨fuel, h⟩ := h
  obtain ⟨l, h1, h2, h3⟩ := open_bytesN (n := 32) (by kernel_rfl) (by kernel_rfl) h
  simp only [Prod.mk.injEq] at h3
  refine ⟨l, h1, ?_, h3.1, h3.2⟩
  have h4 : cs.toList = l.map u8v := h2
  rw [← h4, Array.toArray_toList]

set_option maxRecDepth 20000 in
theorem shut_keyA {l : List UInt8} (hl : l.length = 32) : DataW.Trod enc Tryz.prog w base spare held 24 (.agg (l.map u8v).toArray) (byteD l) [] :=
  ⟨2, trod_bytes (by kernel_rfl) (by kernel_rfl) l hl 0⟩
end
end Go.Proofs.YtgklcfipgdbbgaaGreatDoor

/- From a walk's end to a law's row: the tables that the row lists, a world for the witness, what is asked behind the call. -/
namespace Go.Proofs.YtgklcfipgdbbgaaGreatDoor
open Go.RowKit Go.ChangeShapes Go.WideShapes

/-- What is asked behind a call that leaves all old memory as it was: every argument and variable is read again. -/
theorem post_old {H : Type} {enc : TypeId × Value → H} {P : Program} {f : Func} {s : ChangeSpec} {W W' : World} {args : Array Value} {v : Value} {ds gs : List (DataW H)} {before pa pv : List MemPlace} {apart fresh handsOn again : Bool}
    (hW : DataW.Whole enc P f.params.toList s.vars apart W args.toList ds gs before) (hb : Below W.heap.size W W') (hps : before = pa ++ pv)
    (hargs : ∀ sp : Nat → Bool, (∀ p ∈ before, sp p.block = true) → DataW.TrodAll enc P W' 0 sp true f.params.toList args.toList (s.fn H (ds ++ gs)).args pa)
    (hvars : ∀ sp : Nat → Bool, (∀ p ∈ before, sp p.block = true) → DataW.TrodVars enc P W' sp s.vars (s.fn H (ds ++ gs)).vars pv)
    (hres : ∀ (b : Nat) (sp : Nat → Bool) (hd : Bool), DataW.TrodAll enc P W' b sp hd f.resultTypes.toList (v.resultList f.resultTypes.size) (s.fn H (ds ++ gs)).results [])
    (hok : ∀ (j : Nat) (t : TypeId) (r : Value), f.resultTypes[j]? = some t → (v.resultList f.resultTypes.size)[j]? = some r → Value.okWide P W' .any 0 t r) :
    s.post enc P f apart fresh handsOn again W args v W' := by
  have hlt : ∀ p ∈ before, p.block < W.heap.size := fun p hp => hW.lt p hp
  have hsp : ∀ p ∈ before, decide (p.block < W.heap.size) = true := fun p hp => decide_eq_true (hlt p hp)
  have hkeep : W.keptBut W' (· ∈ before) := hb.frame _
  refine ⟨ds, gs, before, [], pa, pv, hW, hres _ _ _, hargs (fun b => decide (b < W.heap.size)) hsp, hvars (fun b => decide (b < W.heap.size)) hsp, World.keptBut_mono (fun p hp => ⟨hp, Or.inr (by rw [hps, List.mem_append] at hp; exact hp)⟩) hkeep, fun _ => ?_⟩
  obtain ⟨_, _, _, _, _, hz, hn⟩ := hW
  have hall : ∀ p, p ∈ ([] ++ pa) ++ pv ↔ p ∈ before := fun p => by rw [hps, List.nil_append]
  refine ⟨hok, _, _, ([] ++ pa) ++ pv, ⟨[] ++ pa, pv, trodAll_append (hargs _ (fun _ _ => rfl)) (hres _ _ _), hvars _ (fun _ _ => rfl), rfl, fun b off hp => ?_, fun ha => ?_⟩, fun p hp _ => (hall p).1 hp⟩
  · have hp' := (hall _).1 hp
    have hold : W'.frozen? ⟨b, off, none⟩ = W.frozen? ⟨b, off, none⟩ := hb.frozen (p := ⟨b, off, none⟩) (hlt _ hp')
    rw [hold]
    exact hz b off hp'
  · have := hn ha
    rw [hps] at this
    simpa using this

theorem own : ownKnob Tryz.prog.godebug = none := by kernel_rfl

/-- What the rows list. -/
abbrev laidList : List (String × DataW Unit) := [("chartroom/digest.start", Rows.laid_chartroom_digest_start), ("chartroom/digest.numbers", Rows.laid_chartroom_digest_numbers), ("bytes.ErrTooLarge", Rows.laid_bytes_ErrTooLarge)]

def startZ : List Int := Chart.start.list.map tn
def numbersZ : List Int := (List.range 64).map fun t => tn (Chart.kAt t)
theorem startZ_data : (Rows.laid_chartroom_digest_start : DataW Unit) = Lib.tabData .u32 startZ := by kernel_rfl
theorem numbersZ_data : (Rows.laid_chartroom_digest_numbers : DataW Unit) = Lib.tabData .u32 numbersZ := by kernel_rfl

theorem laid_of {W : World} (h : laidMetH Tryz.prog laidList W) : Laid W := by
  have h' : laidMet Tryz.prog laidList W := h
  have hs : Lib.TabIs Tryz.prog W "chartroom/digest.start" .u32 startZ := by
    rw [laidList, startZ_data] at h'
    exact Lib.tabIs_of_head (g := 3) (t := 119) (e := 118) (n := 8) (by kernel_rfl) (by kernel_rfl) (by kernel_rfl) (by kernel_rfl) (by kernel_rfl) (by kernel_rfl) h'
  have hn : Lib.TabIs Tryz.prog W "chartroom/digest.numbers" .u32 numbersZ := by
    have h2 := h'.tail
    rw [numbersZ_data] at h2
    exact Lib.tabIs_of_head (g := 4) (t := 134) (e := 118) (n := 64) (by kernel_rfl) (by kernel_rfl) (by kernel_rfl) (by kernel_rfl) (by kernel_rfl) (by kernel_rfl) h2
  have cs : ∀ t, t < 8 → W.cell? ⟨3, t, none⟩ = some (.int .u32 (tn (Chart.start.list.getD t 0))) := fun t ht => by
    have := hs.cell (g := 3) (by kernel_rfl) t ht
    rw [this]
    have hl : t < Chart.start.list.length := ht
    simp [startZ, List.getD, hl]
  have cn : ∀ t, t < 64 → W.cell? ⟨4, t, none⟩ = some (.int .u32 (tn (Chart.kAt t))) := fun t ht => by
    have := hn.cell (g := 4) (by kernel_rfl) t ht
    rw [this]
    simp [numbersZ, List.getD, ht]
  exact ⟨cn, cs, cell_lt (cn 0 (by decide)), cell_lt (cs 0 (by decide))⟩

/-! ### One start that fits -/
abbrev tooLarge : ByteArray := { data := #[98, 121, 116, 101, 115, 46, 66, 117, 102, 102, 101, 114, 58, 32, 116, 111, 111, 32, 108, 97, 114, 103, 101] }
noncomputable def low : Nat := (World.holding Tryz.prog default ⟨#[], #[], []⟩).heap.size
noncomputable def putRow (h : Array Obj) (g : Nat) (cs : Array Value) : Array Obj := h.modify g fun
  | .cells _ t frozen => .cells cs t frozen
  | o => o
noncomputable def laidWorld (os : Os) : World :=
  let w0 := World.holding Tryz.prog os ⟨#[.cells #[.string tooLarge] 162], #[], []⟩
  { w0 with heap := putRow (putRow (putRow w0.heap 3 (startZ.map fun z => Value.int .u32 z).toArray) 4 (numbersZ.map fun z => Value.int .u32 z).toArray) 0 #[.iface 146 (.pointer (some ⟨low, 0, none⟩))] }
set_option maxRecDepth 1000000 in
theorem laid_met (os : Os) (args : Array Value) : laidMet Tryz.prog laidList ((laidWorld os).forCall (fun _ _ => 0) ⟨#[], args, []⟩).memory :=
  laidMet_of_run' 8 (by kernel_rfl) (by kernel_rfl)
end Go.Proofs.YtgklcfipgdbbgaaGreatDoor
