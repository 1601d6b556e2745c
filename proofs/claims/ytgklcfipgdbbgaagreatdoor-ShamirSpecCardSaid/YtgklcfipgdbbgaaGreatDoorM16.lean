/- codec.numeral. -/
import Derived.Test.YtgklcfipgdbbgaaGreatDoorM10
namespace Go.Proofs.YtgklcfipgdbbgaaGreatDoor
open Go.RowKit
attribute [-go_sem] Builtin.append_

theorem or128_fin : ∀ x : Fin 256, x.val ||| 128 = x.val % 128 + 128 := by decide +kernel
theorem wrap8_nat (u : Nat) : IntKind.u8.wrap (u : Int) = bn (UInt8.ofNat u) := by
  rw [IntKind.wrap_u8']
  unfold bn
  simp
theorem or128 (u : Nat) : bits .or .u8 (bn (UInt8.ofNat u)) 128 = bn (UInt8.ofNat (u % 128 + 128)) := by
  show IntKind.u8.wrap ((BitVec.ofInt 8 (bn (UInt8.ofNat u)) ||| BitVec.ofInt 8 ((128 : Nat) : Int)).toNat : Int) = _
  have e1 : (bn (UInt8.ofNat u)) = ((u % 256 : Nat) : Int) := by unfold bn; simp
  rw [e1, BitVec.toNat_or, BitVec.ofInt_natCast, BitVec.ofInt_natCast, BitVec.toNat_ofNat, BitVec.toNat_ofNat]
  have h := or128_fin ⟨u % 256, by omega⟩
  simp only at h
  rw [show u % 256 % 2 ^ 8 = u % 256 by omega, show 128 % 2 ^ 8 = 128 by decide, h, wrap8_nat]
  congr 2
  omega

set_option maxRecDepth 20000 in
theorem numeral_any {B : Nat} {w : World} {v : Value} {l : List UInt8} (h : Own B w v l) (hB : B ≤ w.heap.size) (u : Nat) (hu : u < 2 ^ 70) (hlim : l.length + 20 ≤ 140737488355328) :
    Calls Tryz.prog 75 #[v, .int .u64 u] w fun e w' => ∃ v', e = .returned v' ∧ Own B w' v' (l ++ numB u) ∧ Gr w v w' v' := by
  have HL := Lib.hid (And.intro (numB_length 10 u hu) hlim)
  clear hu hlim
  go_enter Tryz.func75, Tryz.ntmps75
  go_wp2_with fail
  go_loopw [0, 1] (fun b x wr => ∃ (l' : List UInt8) (u' : Nat), x = .int .u64 u' ∧ Hid (l' ++ numB u' = l ++ numB u) ∧ Hid (Own B wr b l') ∧ Hid (Gr w v wr b)) (fun _ x _ => (intOf x).toNat)
  case atStart => exact ⟨l, u, rfl, Lib.hid rfl, Lib.hid h, Lib.hid (Gr.refl _ _)⟩
  case round =>
    obtain ⟨l', u', rfl, hL, hO, hW⟩ := hrel
    have hbl : l'.length + (numB u').length = l.length + (numB u).length := by
      have := congrArg List.length hL.out
      simpa using this
    have hwr := hW.out.size
    have hlim := HL.out
    by_cases hlt : 128 ≤ u'
    · obtain ⟨c, hc⟩ : ∃ c, c = UInt8.ofNat (u' % 128 + 128) := ⟨_, rfl⟩
      have hpos : 0 < (numB u').length := by rw [numB_big u' (by omega)]; simp
      obtain ⟨v1, w1, E, hO1, hB1⟩ := append_byte hO.out (by omega) c (by omega)
      have e1 := wrap8_nat u'
      have e2 := or128 u'
      rw [← hc] at e2
      have e3 : ¬ (u' : Int) < 128 := by omega
      have hL1 : (l' ++ [c]) ++ numB (u' / 128) = l ++ numB u := by
        rw [← hL.out, numB_big u' (by omega), ← hc]
        simp
      have HH := Lib.hid (And.intro hL1 (And.intro hO1 (hW.out.trans hB1)))
      have Hlt := Lib.hid hlt
      clear hc hL1 hO1 hB1 hlt hpos hbl hwr hlim
      go_wp2_with fail
      refine ⟨⟨l' ++ [c], u' / 128, rfl, Lib.hid HH.out.1, Lib.hid HH.out.2.1, Lib.hid HH.out.2.2⟩, ?_⟩
      have := Hlt.out
      simp [intOf]
      omega
    · have hs := numB_small u' (by omega)
      obtain ⟨c, hc⟩ : ∃ c, c = UInt8.ofNat u' := ⟨_, rfl⟩
      have hlen1 : (numB u').length = 1 := by rw [hs]; rfl
      obtain ⟨v1, w1, E, hO1, hB1⟩ := append_byte hO.out (by omega) c (by omega)
      have e1 := wrap8_nat u'
      rw [← hc] at e1
      rw [← hc] at hs
      have e3 : (u' : Int) < 128 := by omega
      rw [← hs, hL.out] at hO1
      have HH := Lib.hid (And.intro hO1 (hW.out.trans hB1))
      clear hc hs hO1 hB1 hlen1 hbl hwr hlim
      go_wp2_with fail
      go_ret
      exact ⟨_, rfl, HH.out.1, HH.out.2⟩
end Go.Proofs.YtgklcfipgdbbgaaGreatDoor
