/- The contract of (*bytes.Buffer).Write off the shelf (written by lay-plain.mjs of the kit, turned into a template). -/
import Derived.Shelf.Bytes.WriteAt
import Derived.Ground.NamesProg
import Derived.StillTailTactics
import Derived.Deep.QuietTactic
import Derived.Test.YtgklcfipgdbbgaaGreatDoorProg
import Derived.Test.YtgklcfipgdbbgaaGreatDoorM10
import Derived.Test.YtgklcfipgdbbgaaGreatDoorM20
import Derived.Test.YtgklcfipgdbbgaaGreatDoorM11
namespace Go.Proofs
open Go.Shelf
def Tryz.lays180_ren : Go.Shelf.Ren := ⟨fun | 180 => 34 | 251 => 55 | 252 => 56 | 181 => 79 | 184 => 80 | 290 => 81 | 324 => 91 | n => n, fun | 130 => 93 | 37 => 56 | 3 => 3 | 75 => 69 | 0 => 0 | 93 => 65 | 91 => 63 | 131 => 94 | 4 => 4 | 20 => 20 | 5 => 5 | 80 => 147 | 9 => 9 | n => n, fun | 14 => 0 | n => n⟩
theorem Tryz.lays180 : Go.Proofs.LaysM.n180 Tryz.prog Tryz.lays180_ren := {
  mixed := by kernel_rfl
  f180 := Tryz.func34.trans (congrArg some (by kernel_rfl))
  f181 := Tryz.func79.trans (congrArg some (by kernel_rfl))
  f184 := Tryz.func80.trans (congrArg some (by kernel_rfl))
  f251 := Tryz.func55.trans (congrArg some (by kernel_rfl))
  f252 := Tryz.func56.trans (congrArg some (by kernel_rfl))
  f290 := Tryz.func81.trans (congrArg some (by kernel_rfl))
  f324 := Tryz.func91.trans (congrArg some (by kernel_rfl))
  t0 := Tryz.underlying0
  a0 := Tryz.isAgg0
  z0 := Tryz.sizeOf0
  v0 := Tryz.zeroValue0
  t3 := Tryz.underlying3
  a3 := Tryz.isAgg3
  z3 := Tryz.sizeOf3
  v3 := Tryz.zeroValue3
  t4 := Tryz.underlying4
  a4 := Tryz.isAgg4
  z4 := Tryz.sizeOf4
  v4 := Tryz.zeroValue4
  t20 := Tryz.underlying20
  a20 := Tryz.isAgg20
  z20 := Tryz.sizeOf20
  v20 := Tryz.zeroValue20
  t37 := Tryz.underlying56
  a37 := Tryz.isAgg56
  z37 := Tryz.sizeOf56
  v37 := Tryz.zeroValue56
  t75 := Tryz.underlying69
  a75 := Tryz.isAgg69
  z75 := Tryz.sizeOf69
  v75 := Tryz.zeroValue69
  t91 := Tryz.underlying63
  a91 := Tryz.isAgg63
  z91 := Tryz.sizeOf63
  v91 := Tryz.zeroValue63
  t93 := Tryz.underlying65
  a93 := Tryz.isAgg65
  z93 := Tryz.sizeOf65
  v93 := Tryz.zeroValue65
  t130 := Tryz.underlying93
  a130 := Tryz.isAgg93
  z130 := Tryz.sizeOf93
  v130 := Tryz.zeroValue93
  t131 := Tryz.underlying94
  a131 := Tryz.isAgg94
  z131 := Tryz.sizeOf94
  v131 := Tryz.zeroValue94
  g14 := by kernel_rfl
  t5 := Tryz.underlying5
  a5 := Tryz.isAgg5
  z5 := Tryz.sizeOf5
  v5 := Tryz.zeroValue5
  t9 := Tryz.underlying9
  a9 := Tryz.isAgg9
  z9 := Tryz.sizeOf9
  v9 := Tryz.zeroValue9
  t80 := Tryz.underlying147
  a80 := Tryz.isAgg147
  z80 := Tryz.sizeOf147
  v80 := Tryz.zeroValue147
  i0 := by kernel_rfl
  i3 := by kernel_rfl
  i4 := by kernel_rfl
  i5 := by kernel_rfl
  i9 := by kernel_rfl
  i20 := by kernel_rfl
  i37 := by kernel_rfl
  i75 := by kernel_rfl
  i80 := by kernel_rfl
  i91 := by kernel_rfl
  i93 := by kernel_rfl
  i130 := by kernel_rfl
  i131 := by kernel_rfl
  m14 := by kernel_rfl }
end Go.Proofs

/- derive: what is hashed. -/
namespace Go.Proofs.YtgklcfipgdbbgaaGreatDoor
open Go.RowKit

/-- The input in block b holds these bytes. -/
def InBuf (B b : Nat) (l : List UInt8) (w : World) : Prop := LibA.IsBuffer 67 (fun _ => none) 5 B b 0 (l.map u8v) w

theorem buf_write {B b : Nat} {l m : List UInt8} {w : World} (h : InBuf B b l w) (hB : B ≤ w.heap.size) (g off cap : Nat) (hx : BytesAt w g off m) (hg : g ≠ b) (hlim : l.length + m.length ≤ 140737488355328) :
    Calls Tryz.prog 34 #[.pointer (some ⟨b, 0, none⟩), .slice (some ⟨g, off, none⟩) m.length cap] w fun e w' => (∃ v, e = .returned v) ∧ InBuf B b (l ++ m) w' ∧ Below B w w' := by
  refine (Any.Buffer_Write_at Tryz.lays180 67 (fun _ => none) B b 0 (l.map u8v) (m.map u8v) ⟨g, off, none⟩ m.length cap w h hB (oneCell_bytes _) (by simp) hg (fun j v hj => ?_) (oneCell_bytes _) (by simpa using hlim)).mono ?_
  · have hadd : (⟨g, off, none⟩ : Addr).add j = ⟨g, off + j, none⟩ := by unfold Addr.add; split <;> simp_all
    rw [hadd]
    have hj1 : j < m.length := by
      apply Classical.byContradiction
      intro hc
      rw [List.getElem?_eq_none (by simpa using hc)] at hj
      simp at hj
    rw [hx j hj1, ← hj]
    simp [hj1]
  · rintro e w' ⟨rfl, h2, h3, _⟩
    refine ⟨⟨_, rfl⟩, ?_, h3⟩
    unfold InBuf
    rw [List.map_append]
    exact h2

theorem InBuf.alloc {B b : Nat} {l : List UInt8} {w : World} (h : InBuf B b l w) (o : Obj) : InBuf B b l (w.alloc o) := LibA.IsBuffer.alloc h o
theorem InBuf.lt {B b : Nat} {l : List UInt8} {w : World} (h : InBuf B b l w) : b < w.heap.size := LibA.IsBuffer.lt h

set_option maxRecDepth 20000 in
theorem key_any {B b : Nat} {l k : List UInt8} {w : World} (h : InBuf B b l w) (hB : B ≤ w.heap.size) (hk : k.length = 32) (hlim : l.length < 1000000000) :
    Calls Tryz.prog 33 #[.pointer (some ⟨b, 0, none⟩), .agg (k.map u8v).toArray] w fun e w' => e = .returned (.pointer (some ⟨b, 0, none⟩)) ∧ InBuf B b (l ++ k) w' ∧ Below B w w' := by
  obtain ⟨d, hd⟩ : ∃ d, d = k.map u8v := ⟨_, rfl⟩
  rw [← hd]
  obtain ⟨wb, hwb⟩ : ∃ x, x = w.alloc (.cells d.toArray 24) := ⟨_, rfl⟩
  have hRb : RowIs wb w.heap.size 24 d := by rw [hwb]; exact RowIs.new w _ _
  have hIb : InBuf B b l wb := by rw [hwb]; exact h.alloc _
  have hBb : Below w.heap.size w wb := by rw [hwb]; exact (Below.refl _ w).alloc (Nat.le_refl _) _
  have hby : BytesAt wb w.heap.size 0 k := by
    intro i hi
    rw [Nat.zero_add, hRb.cell, hd]
    simp [hi]
  have hsz : wb.heap.size = w.heap.size + 1 := by rw [hwb]; simp
  have C := Lib.hid (buf_write (w := wb.drew) hIb (by show B ≤ wb.heap.size; omega) w.heap.size 0 32 hby (by have := h.lt; omega) (by omega))
  rw [hk] at C
  have HB := Lib.hid hBb
  clear hRb hIb hBb hby hd h hlim
  go_enter Tryz.func33, Tryz.ntmps33
  go_upto_region 1 with fail
  rw [← hwb]
  clear hwb
  go_still_tail 4, (by kernel_rfl)
  go_wp2_with fail
  refine C.out.mono ?_
  rintro e w2 ⟨⟨v, rfl⟩, hI, hB2⟩
  have HH := Lib.hid (And.intro hI ((HB.out.mono hB).trans ((show Below B wb wb.drew from (drew_below wb).mono (by omega)).trans hB2)))
  clear hI hB2
  go_wp2_with fail
  go_ret
  exact ⟨rfl, HH.out.1, HH.out.2⟩
end Go.Proofs.YtgklcfipgdbbgaaGreatDoor

/- derive: the hash of an input under a tag. -/
namespace Go.Proofs.YtgklcfipgdbbgaaGreatDoor
open Go.RowKit

theorem InBuf.below {B b : Nat} {l : List UInt8} {w w' : World} (h : InBuf B b l w) (hb : Below w.heap.size w w') : InBuf B b l w' := LibA.IsBuffer.old h hb

set_option maxRecDepth 20000 in
theorem bytes_any {B b : Nat} {l : List UInt8} {w : World} (h : InBuf B b l w) :
    Calls Tryz.prog 57 #[.pointer (some ⟨b, 0, none⟩)] w fun e w' => ∃ v, e = .returned v ∧ Bs w.heap.size w' v l ∧ Below w.heap.size w w' := by
  obtain ⟨hB, v, lr, h3, hown, hne⟩ := h
  have ho : Own B w v l := by
    have := hown
    rw [List.length_map] at this
    exact this
  have hbs := ho.bs
  have c0 : w.cell? ⟨b, 0, none⟩ = some v := h3.c0
  have c1 : w.cell? ⟨b, 1, none⟩ = some (.int .i64 0) := h3.c1
  have hcase : (v = .slice none 0 0) ∨ ∃ g n cap, v = .slice (some ⟨g, 0, none⟩) n cap ∧ n ≤ cap := by
    obtain ⟨_, ⟨rfl, _⟩ | ⟨g, cap, cur, rfl, _, _, hc, _⟩⟩ := ho
    · exact .inl rfl
    · exact .inr ⟨g, _, cap, rfl, hc⟩
  have Hbs := Lib.hid hbs
  clear hbs ho hown hne h3 hB
  have fin : ∀ n, Bs w.heap.size (w.drewN n) v l ∧ Below w.heap.size w (w.drewN n) := fun n =>
    have hb : Below w.heap.size w (w.drewN n) := ⟨rfl, rfl, rfl, Nat.le_refl _, fun _ _ => rfl⟩
    ⟨Hbs.out.below hb, hb⟩
  have Fin := Lib.hid fin
  clear fin
  rcases hcase with rfl | ⟨g, n, cap, rfl, hn⟩
  · go_enter Tryz.func57, Tryz.ntmps57
    go_wp2_with fail
    go_quiet (fail)
    go_wp2_with fail
    go_ret
    exact ⟨_, rfl, (Fin.out _).1, (Fin.out _).2⟩
  · go_enter Tryz.func57, Tryz.ntmps57
    go_wp2_with fail
    go_quiet (fail)
    go_wp2_with fail
    go_ret
    exact ⟨_, rfl, (Fin.out _).1, (Fin.out _).2⟩
set_option maxRecDepth 20000 in
theorem under_any {B b : Nat} {l : List UInt8} {w : World} (h : InBuf B b l w) (tag : ByteArray) (ht : tag.data.toList.length < 2 ^ 47) (hlen : l.length < 2 ^ 47) (hl : Laid w) :
    Calls Tryz.prog 35 #[.pointer (some ⟨b, 0, none⟩), .string tag] w fun e w' => e = .returned (.agg (bytesV (Chart.tagged tag.data.toList l)).toArray) ∧ Below w.heap.size w w' := by
  obtain ⟨wa, hwa⟩ : ∃ x, x = w.alloc (.cells #[.int .u8 0, .int .u8 0, .int .u8 0, .int .u8 0, .int .u8 0, .int .u8 0, .int .u8 0, .int .u8 0, .int .u8 0, .int .u8 0, .int .u8 0, .int .u8 0, .int .u8 0, .int .u8 0, .int .u8 0, .int .u8 0, .int .u8 0, .int .u8 0, .int .u8 0, .int .u8 0, .int .u8 0, .int .u8 0, .int .u8 0, .int .u8 0, .int .u8 0, .int .u8 0, .int .u8 0, .int .u8 0, .int .u8 0, .int .u8 0, .int .u8 0, .int .u8 0] 24) := ⟨_, rfl⟩
  have hRa : RowIs wa w.heap.size 24 (List.replicate 32 (u8v 0)) := by rw [hwa]; exact RowIs.new w (List.replicate 32 (u8v 0)) _
  have hBa : Below w.heap.size w wa := by rw [hwa]; exact (Below.refl _ w).alloc (Nat.le_refl _) _
  have hIa : InBuf B b l wa := by rw [hwa]; exact h.alloc _
  have hla := hl.below hBa hl.numLt hl.startLt
  have C := Lib.hid (bytes_any hIa)
  have hwl := hRa.lt
  have HH := Lib.hid (And.intro hRa (And.intro hBa (And.intro hla (And.intro hlen ht))))
  clear hRa hBa hIa hla hl h hlen ht
  go_enter Tryz.func35, Tryz.ntmps35
  go_upto_region 1 with fail
  rw [← hwa]
  clear hwa
  go_wp2_with fail
  refine C.out.mono ?_
  rintro e w1 ⟨v, rfl, hbs, hB1⟩
  have hla1 := HH.out.2.2.1.below hB1 HH.out.2.2.1.numLt HH.out.2.2.1.startLt
  have C2 := Lib.hid (tagged_any tag l v w1 (hbs.mono hB1.size) HH.out.2.2.2.1 HH.out.2.2.2.2 hla1)
  have H1 := Lib.hid (And.intro (HH.out.1.below hB1 hwl) (And.intro (HH.out.2.1.trans (hB1.mono (Nat.le_of_lt hwl))) hB1.size))
  clear hla1 hbs hB1 C
  go_wp2_with fail
  refine C2.out.mono ?_
  rintro e w2 ⟨rfl, hB2⟩
  obtain ⟨d, hd⟩ : ∃ d, d = bytesV (Chart.tagged tag.data.toList l) := ⟨_, rfl⟩
  rw [← hd]
  have hdl : d.length = 32 := by rw [hd, List.length_map, Chart.tagged_length]
  have hr2 := H1.out.1.below hB2 H1.out.1.lt
  have E3 := hr2.stores (P := Tryz.prog) d (by rw [hdl]; rfl) (by rw [hd]; exact oneCell_bytes _)
  obtain ⟨w3, hw3⟩ : ∃ x, x = w2.setRow w.heap.size d.toArray := ⟨_, rfl⟩
  rw [← hw3] at E3
  have hR3 : RowIs w3 w.heap.size 24 d := by rw [hw3]; exact hr2.setRow _
  have hB3 : Below w.heap.size w w3 := by rw [hw3]; exact below_setRow (H1.out.2.1.trans (hB2.mono (Nat.le_of_lt (Nat.lt_of_lt_of_le hwl H1.out.2.2)))) (Nat.le_refl _) _
  have Hd := Lib.hid hd
  clear hd hw3 hr2 hB2 C2
  go_wp2_with fail
  refine bodyPost_ret (results_cell_row (d := .array 32 5) rfl _ _ w.heap.size _ d.toArray (0, 0) rfl hR3 (by kernel_rfl) rfl (by rw [List.size_toArray, hdl]; kernel_rfl)) rfl ?_
  refine ⟨?_, hB3⟩
  rw [Hd.out]
end Go.Proofs.YtgklcfipgdbbgaaGreatDoor

/- derive.Expand without numbers. -/
namespace Go.Proofs.YtgklcfipgdbbgaaGreatDoor
open Go.RowKit

/-- The key that a key, a label and no number give. -/
def expand0 (k label : List UInt8) (s : ByteArray) : List UInt8 := Chart.tagged label (k ++ encL [.text s])

def derive_ : ByteArray := ⟨#[100, 101, 114, 105, 118, 101]⟩

set_option maxRecDepth 20000 in
set_option maxHeartbeats 2000000 in
theorem expand_nil (k : List UInt8) (hk : k.length = 32) (s : ByteArray) (hs : s.data.toList.length < 1000000) (w : World) (hl : Laid w) :
    Calls Tryz.prog 17 #[.agg (k.map u8v).toArray, .string s, .slice none 0 0] w fun e w' => e = .returned (.agg (bytesV (expand0 k derive_.data.toList s)).toArray) ∧ Below w.heap.size w w' := by
  obtain ⟨d, hd⟩ : ∃ d, d = k.map u8v := ⟨_, rfl⟩
  rw [← hd]
  have hdl : d.length = 32 := by rw [hd, List.length_map, hk]
  obtain ⟨w1, hw1⟩ : ∃ x, x = w.alloc (.cells d.toArray 24) := ⟨_, rfl⟩
  obtain ⟨w2, hw2⟩ : ∃ x, x = w1.alloc (.cells #[.int .u8 0, .int .u8 0, .int .u8 0, .int .u8 0, .int .u8 0, .int .u8 0, .int .u8 0, .int .u8 0, .int .u8 0, .int .u8 0, .int .u8 0, .int .u8 0, .int .u8 0, .int .u8 0, .int .u8 0, .int .u8 0, .int .u8 0, .int .u8 0, .int .u8 0, .int .u8 0, .int .u8 0, .int .u8 0, .int .u8 0, .int .u8 0, .int .u8 0, .int .u8 0, .int .u8 0, .int .u8 0, .int .u8 0, .int .u8 0, .int .u8 0, .int .u8 0] 24) := ⟨_, rfl⟩
  obtain ⟨w3, hw3⟩ : ∃ x, x = w2.alloc (.cells #[.int .i64 2, .int .i64 0, .string s, .slice none 0 0] 59) := ⟨_, rfl⟩
  have s1 : w1.heap.size = w.heap.size + 1 := by rw [hw1]; simp
  have s2 : w2.heap.size = w.heap.size + 1 + 1 := by rw [hw2]; simp [s1]
  have s3 : w3.heap.size = w.heap.size + 1 + 1 + 1 := by rw [hw3]; simp [s2]
  have r1 : RowIs w3 w.heap.size 24 d := by
    rw [hw3, hw2]
    refine RowIs.alloc (RowIs.alloc ?_ _) _
    rw [hw1]; exact RowIs.new w d _
  have r2 : RowIs w3 (w.heap.size + 1) 24 (List.replicate 32 (u8v 0)) := by
    rw [hw3]
    refine RowIs.alloc ?_ _
    rw [hw2, ← s1]; exact RowIs.new w1 (List.replicate 32 (u8v 0)) _
  have r3 : RowIs w3 (w.heap.size + 1 + 1) 59 [.int .i64 2, .int .i64 0, .string s, .slice none 0 0] := by
    rw [hw3, ← s2]; exact RowIs.new w2 [.int .i64 2, .int .i64 0, .string s, .slice none 0 0] _
  have hB : Below w.heap.size w w3 := by
    rw [hw3, hw2, hw1]
    exact (((Below.refl _ w).alloc (Nat.le_refl _) _).alloc (by simp) _).alloc (by simp; omega) _
  have hits : ItsAt w3 (w.heap.size + 1 + 1) [.text s] := by
    intro i hi j v hv
    have hi0 : i = 0 := by simpa using hi
    subst hi0
    rw [r3.cell, Nat.mul_zero, Nat.zero_add]
    exact hv
  have C := Lib.hid (encode_list [.text s] (by intro x hx; simp at hx; subst hx; exact hs) (w.heap.size + 1 + 1) 1 (by simp) (by simp) w3 hits (by omega))
  have HH := Lib.hid (And.intro r1 (And.intro r2 (And.intro hB (And.intro hd (And.intro hl s3)))))
  clear r1 r2 r3 hB hits hd hl s2 s1
  go_enter Tryz.func17, Tryz.ntmps17
  go_upto_region 7 with fail
  go_loop [18, 7] (fun i x => i = .int .i64 0 ∧ x = .slice (some ⟨w.heap.size + 1 + 1, 0, none⟩) 1 1) (fun _ _ => 0)
  case atStart => exact ⟨rfl, rfl⟩
  case round =>
    obtain ⟨rfl, rfl⟩ := hrel
    go_upto_region 7 with fail
    rw [← hw1, ← hw2, ← hw3]
    clear hw1 hw2 hw3
    go_wp2_with fail
    refine C.out.mono ?_
    rintro e w4 ⟨v4, rfl, hbs4, hB4⟩
    obtain ⟨a4, c4, rfl, -, hx4⟩ := hbs4.ex
    obtain ⟨g, off, rfl, hg, hby4⟩ := hx4 (by simp [encL])
    have henc : (encL [.text s]).length ≤ 1000100 := by
      have h1 := It.enc_len (.text s) hs
      have h2 : (numB [It.text s].length).length ≤ 2 := numB_length 1 1 (by decide)
      have h3 : [It.text s].flatMap It.enc = It.enc (.text s) := by simp
      simp only [It.len] at h1
      unfold encL
      rw [h3, List.length_append, List.length_cons]
      omega
    obtain ⟨en, hen⟩ : ∃ x, x = encL [.text s] := ⟨_, rfl⟩
    rw [← hen] at hbs4 hby4 henc ⊢
    clear hx4
    obtain ⟨w5, hw5⟩ : ∃ x, x = w4.alloc (.cells #[.slice none 0 0, .int .i64 0, .int .i8 0] 67) := ⟨_, rfl⟩
    have hz : LibA.IsBuffer 67 (fun _ => none) 5 w4.heap.size w4.heap.size 0 [] w5 := by
      rw [hw5]; exact LibA.of_whole (Lib.fresh_isBuffer _ _ _)
    have hB5 : Below w4.heap.size w4 w5 := by rw [hw5]; exact (Below.refl _ w4).alloc (Nat.le_refl _) _
    have hs4 := hB4.size
    have hr1 := (HH.out.1.below hB4 (by omega)).below hB5 (by omega)
    have E1 := hr1.loads (P := Tryz.prog) 32 hdl
    have hl5 := HH.out.2.2.2.2.1.below (HH.out.2.2.1.trans ((hB4.mono (by omega)).trans (hB5.mono (by omega)))) HH.out.2.2.2.2.1.numLt HH.out.2.2.2.2.1.startLt
    have hb45 : Below w.heap.size w w5 := HH.out.2.2.1.trans ((hB4.mono (by omega)).trans (hB5.mono (by omega)))
    have C5 := Lib.hid (key_any (B := w4.heap.size) (b := w4.heap.size) (l := []) (k := k) (w := w5) hz hB5.size hk (by simp))
    rw [← HH.out.2.2.2.1] at C5
    have H5 := Lib.hid (And.intro hl5 (And.intro hb45 (And.intro ((HH.out.2.1.below hB4 (by omega)).below hB5 (by omega)) (And.intro (hby4.below hB5 hg) (And.intro hs4 (And.intro hB5.size (And.intro henc hen)))))))
    clear hz hB5 hr1 hl5 hb45 hB4 hbs4 hby4 henc hen C
    go_upto_region 9 with fail
    rw [← hw5]
    clear hw5
    go_wp2_with fail
    refine C5.out.mono ?_
    rintro e w6 ⟨rfl, hI6, hB6⟩
    have h56 := H5.out.2.2.2.2.2.1
    have h55 := H5.out.2.2.2.2.1
    have C6 := Lib.hid (buf_write (B := w4.heap.size) (w := w6) hI6 (Nat.le_trans h56 hB6.size) g off c4 (H5.out.2.2.2.1.below hB6 hg) (by omega) (by have := H5.out.2.2.2.2.2.2.1; simp [hk]; omega))
    have H6 := Lib.hid (And.intro (H5.out.1.below (hB6.mono (show w.heap.size ≤ w4.heap.size by omega)) HH.out.2.2.2.2.1.numLt HH.out.2.2.2.2.1.startLt) (And.intro (H5.out.2.1.trans (hB6.mono (by omega))) (And.intro (H5.out.2.2.1.below hB6 (by omega)) hB6.size)))
    clear hI6 hB6 C5 h56 h55
    go_wp2_with fail
    refine C6.out.mono ?_
    rintro e w7 ⟨⟨v7, rfl⟩, hI7, hB7⟩
    have C7 := Lib.hid (under_any hI7 derive_ (by decide) (by have := H5.out.2.2.2.2.2.2.1; simp [hk]; omega) (H6.out.1.below (hB7.mono (show w.heap.size ≤ w4.heap.size by have := H5.out.2.2.2.2.1; omega)) HH.out.2.2.2.2.1.numLt HH.out.2.2.2.2.1.startLt))
    have H7 := Lib.hid (And.intro (H6.out.2.1.trans (hB7.mono (by have := H5.out.2.2.2.2.1; omega))) (And.intro (H6.out.2.2.1.below hB7 (by have := H5.out.2.2.2.2.1; omega)) hB7.size))
    clear hI7 hB7 C6
    go_wp2_with fail
    refine C7.out.mono ?_
    rintro e w8 ⟨rfl, hB8⟩
    obtain ⟨o, ho⟩ : ∃ o, o = bytesV (Chart.tagged derive_.data.toList ([] ++ k ++ en)) := ⟨_, rfl⟩
    have hol : o.length = 32 := by rw [ho, List.length_map, Chart.tagged_length]
    rw [← ho]
    have hr8 := H7.out.2.1.below hB8 H7.out.2.1.lt
    have E8 := hr8.stores (P := Tryz.prog) o (by rw [hol]; rfl) (by rw [ho]; exact oneCell_bytes _)
    obtain ⟨w9, hw9⟩ : ∃ x, x = w8.setRow (w.heap.size + 1) o.toArray := ⟨_, rfl⟩
    rw [← hw9] at E8
    have hR9 : RowIs w9 (w.heap.size + 1) 24 o := by rw [hw9]; exact hr8.setRow _
    have hB9 : Below w.heap.size w w9 := by rw [hw9]; exact below_setRow (H7.out.1.trans (hB8.mono (by have := H7.out.2.1.lt; omega))) (by omega) _
    have Ho := Lib.hid ho
    clear ho hw9 hr8 hB8 C7
    go_wp2_with fail
    refine bodyPost_ret (results_cell_row (d := .array 32 5) rfl _ _ (w.heap.size + 1) _ o.toArray (0, 0) rfl hR9 (by kernel_rfl) rfl (by rw [List.size_toArray, hol]; kernel_rfl)) rfl ?_
    refine ⟨?_, hB9⟩
    rw [Ho.out, H5.out.2.2.2.2.2.2.2]
    rfl
end Go.Proofs.YtgklcfipgdbbgaaGreatDoor

/- derive.Scalar. -/
namespace Go.Proofs.YtgklcfipgdbbgaaGreatDoor
open Go.RowKit

def scalar_ : ByteArray := ⟨#[115, 99, 97, 108, 97, 114]⟩

/-- The private key that a key and a label give. -/
def dscalar (k : List UInt8) (s : ByteArray) : Nat := scalarOf scalar_.data.toList (expand0 k derive_.data.toList s)

theorem expand0_length (k l : List UInt8) (s : ByteArray) : (expand0 k l s).length = 32 := Chart.tagged_length _ _

set_option maxRecDepth 20000 in
theorem dscalar_any (k : List UInt8) (hk : k.length = 32) (s : ByteArray) (hs : s.data.toList.length < 1000000) (w : World) (hl : Laid w) :
    Calls Tryz.prog 16 #[.agg (k.map u8v).toArray, .string s] w fun e w' => e = .returned (.int .i64 (dscalar k s)) ∧ Below w.heap.size w w' := by
  obtain ⟨d, hd⟩ : ∃ d, d = k.map u8v := ⟨_, rfl⟩
  rw [← hd]
  have hdl : d.length = 32 := by rw [hd, List.length_map, hk]
  obtain ⟨w1, hw1⟩ : ∃ x, x = w.alloc (.cells d.toArray 24) := ⟨_, rfl⟩
  have hR1 : RowIs w1 w.heap.size 24 d := by rw [hw1]; exact RowIs.new w d _
  have hB1 : Below w.heap.size w w1 := by rw [hw1]; exact (Below.refl _ w).alloc (Nat.le_refl _) _
  have E1 := hR1.loads (P := Tryz.prog) 32 hdl
  have C1 := Lib.hid (expand_nil k hk s hs w1 (hl.below hB1 hl.numLt hl.startLt))
  rw [← hd] at C1
  have H1 := Lib.hid (And.intro hB1 hl)
  clear hR1 hB1 hl hd
  go_enter Tryz.func16, Tryz.ntmps16
  go_upto_region 1 with fail
  rw [← hw1]
  clear hw1
  go_wp2_with fail
  refine C1.out.mono ?_
  rintro e w2 ⟨rfl, hB2⟩
  obtain ⟨o, ho⟩ : ∃ o, o = bytesV (expand0 k derive_.data.toList s) := ⟨_, rfl⟩
  rw [← ho]
  have hol : o.length = 32 := by rw [ho, List.length_map, expand0_length]
  obtain ⟨w3, E3, hR3, hB3⟩ := fresh_store (P := Tryz.prog) w2 24 #[.int .u8 0, .int .u8 0, .int .u8 0, .int .u8 0, .int .u8 0, .int .u8 0, .int .u8 0, .int .u8 0, .int .u8 0, .int .u8 0, .int .u8 0, .int .u8 0, .int .u8 0, .int .u8 0, .int .u8 0, .int .u8 0, .int .u8 0, .int .u8 0, .int .u8 0, .int .u8 0, .int .u8 0, .int .u8 0, .int .u8 0, .int .u8 0, .int .u8 0, .int .u8 0, .int .u8 0, .int .u8 0, .int .u8 0, .int .u8 0, .int .u8 0, .int .u8 0] o (by rw [hol]; rfl) (by rw [ho]; exact oneCell_bytes _)
  have hb13 : Below w.heap.size w w3 := H1.out.1.trans ((hB2.mono H1.out.1.size).trans (hB3.mono (Nat.le_trans H1.out.1.size hB2.size)))
  have hbs : Bs w3.heap.size w3 (.slice (some ⟨w2.heap.size, 0, none⟩) 32 32) (expand0 k derive_.data.toList s) :=
    Bs.row hR3 hR3.lt _ (expand0_length _ _ _) (Nat.le_refl _) (fun i hi => by rw [Nat.zero_add, ho]; simp [hi])
  have C2 := Lib.hid (scalar_any scalar_ _ _ w3 hbs (by rw [expand0_length]; decide) (by decide) (H1.out.2.below hb13 H1.out.2.numLt H1.out.2.startLt))
  have H2 := Lib.hid hb13
  clear hbs hR3 hB3 hb13 hB2 ho C1
  go_wp2_with fail
  refine C2.out.mono ?_
  rintro e w4 ⟨rfl, hB4⟩
  obtain ⟨r, hr⟩ : ∃ r, r = scalarOf scalar_.data.toList (expand0 k derive_.data.toList s) := ⟨_, rfl⟩
  rw [← hr]
  have HF := Lib.hid (And.intro hr (H2.out.trans (hB4.mono H2.out.size)))
  clear hr hB4 C2
  go_wp2_with fail
  go_ret
  exact ⟨by rw [HF.out.1]; rfl, HF.out.2⟩
end Go.Proofs.YtgklcfipgdbbgaaGreatDoor

/- derive.Expand with one number. -/
namespace Go.Proofs.YtgklcfipgdbbgaaGreatDoor
open Go.RowKit
attribute [-go_sem] Builtin.append_

/-- The key that a key, a label and a number give. -/
def expand1 (k label : List UInt8) (s : ByteArray) (i : Int) : List UInt8 := Chart.tagged label (k ++ encL [.text s, .int i])
theorem expand1_length (k l : List UInt8) (s : ByteArray) (i : Int) : (expand1 k l s i).length = 32 := Chart.tagged_length _ _

abbrev zeroV : Value := .agg #[.int .i64 0, .int .i64 0, .string ⟨#[]⟩, .slice none 0 0]
theorem value_info : ∃ i, Tryz.prog.info? 59 = some i ∧ i.zero = some zeroV ∧ i.size = 4 ∧ i.bytes = 56 := by
  have h : (Tryz.prog.info? 59).map (fun i => (i.zero, i.size, i.bytes)) = some (some (.agg #[.int .i64 0, .int .i64 0, .string ⟨#[]⟩, .slice none 0 0]), 4, 56) := by kernel_rfl
  cases hq : Tryz.prog.info? 59 with
  | none => simp [hq] at h
  | some i =>
    simp [hq] at h
    exact ⟨i, rfl, h.1, h.2.1, h.2.2⟩
theorem it_one (x : It) : ∀ u ∈ x.cells, u.oneCell' = true := by
  intro u hu
  cases x <;>
  · simp only [It.cells, List.mem_cons, List.not_mem_nil, or_false] at hu
    rcases hu with rfl | rfl | rfl | rfl <;> rfl
theorem it_four (x : It) : x.cells.length = 4 := by cases x <;> rfl
/-- Two items in a row of their own. -/
theorem its_two {B : Nat} {w : World} {v : Value} {x y : It} (h : w.ownsRow B 59 4 v 2 (x.cells ++ y.cells)) : ∃ g cap, v = .slice (some ⟨g, 0, none⟩) 2 cap ∧ 2 ≤ cap ∧ B ≤ g ∧ g < w.heap.size ∧ ItsAt w g [x, y] := by
  have h0 := h
  have hlt := ownR_lt h
  obtain ⟨h1, ⟨_, hn⟩ | ⟨g, cap, cur, rfl, hg, hc, hcap, _, hs, ht⟩⟩ := h
  · cases hn
  · refine ⟨g, cap, rfl, hcap, hg, hlt g rfl, fun i hi j v hv => ?_⟩
    have hj : j < 4 := by
      apply Classical.byContradiction
      intro hh
      rw [List.getElem?_eq_none (by rw [it_four]; omega)] at hv
      cases hv
    have hi2 : i = 0 ∨ i = 1 := by simp at hi; omega
    rw [h0.cellAt (4 * i + j) (by omega)]
    rcases hi2 with rfl | rfl
    · rw [List.getElem?_append_left (by rw [it_four]; omega)]
      simpa using hv
    · rw [List.getElem?_append_right (by rw [it_four]; omega), it_four]
      rw [show 4 * 1 + j - 4 = j by omega]
      exact hv

set_option maxRecDepth 20000 in
set_option maxHeartbeats 2000000 in
theorem expand_one (k : List UInt8) (hk : k.length = 32) (s : ByteArray) (hs : s.data.toList.length < 1000000) (z : Int) (hz : -9223372036854775808 ≤ z ∧ z ≤ 9223372036854775807) (gi : Nat) (w : World) (hl : Laid w) (hgi : w.cell? ⟨gi, 0, none⟩ = some (.int .i64 z)) :
    Calls Tryz.prog 17 #[.agg (k.map u8v).toArray, .string s, .slice (some ⟨gi, 0, none⟩) 1 1] w fun e w' => e = .returned (.agg (bytesV (expand1 k derive_.data.toList s z)).toArray) ∧ Below w.heap.size w w' := by
  obtain ⟨d, hd⟩ : ∃ d, d = k.map u8v := ⟨_, rfl⟩
  rw [← hd]
  have hdl : d.length = 32 := by rw [hd, List.length_map, hk]
  obtain ⟨w1, hw1⟩ : ∃ x, x = w.alloc (.cells d.toArray 24) := ⟨_, rfl⟩
  obtain ⟨w2, hw2⟩ : ∃ x, x = w1.alloc (.cells #[.int .u8 0, .int .u8 0, .int .u8 0, .int .u8 0, .int .u8 0, .int .u8 0, .int .u8 0, .int .u8 0, .int .u8 0, .int .u8 0, .int .u8 0, .int .u8 0, .int .u8 0, .int .u8 0, .int .u8 0, .int .u8 0, .int .u8 0, .int .u8 0, .int .u8 0, .int .u8 0, .int .u8 0, .int .u8 0, .int .u8 0, .int .u8 0, .int .u8 0, .int .u8 0, .int .u8 0, .int .u8 0, .int .u8 0, .int .u8 0, .int .u8 0, .int .u8 0] 24) := ⟨_, rfl⟩
  obtain ⟨w3, hw3⟩ : ∃ x, x = w2.alloc (.cells #[.int .i64 2, .int .i64 0, .string s, .slice none 0 0] 59) := ⟨_, rfl⟩
  have s1 : w1.heap.size = w.heap.size + 1 := by rw [hw1]; simp
  have s2 : w2.heap.size = w.heap.size + 1 + 1 := by rw [hw2]; simp [s1]
  have s3 : w3.heap.size = w.heap.size + 1 + 1 + 1 := by rw [hw3]; simp [s2]
  have r1 : RowIs w3 w.heap.size 24 d := by
    rw [hw3, hw2]
    refine RowIs.alloc (RowIs.alloc ?_ _) _
    rw [hw1]; exact RowIs.new w d _
  have r2 : RowIs w3 (w.heap.size + 1) 24 (List.replicate 32 (u8v 0)) := by
    rw [hw3]
    refine RowIs.alloc ?_ _
    rw [hw2, ← s1]; exact RowIs.new w1 (List.replicate 32 (u8v 0)) _
  have r3 : RowIs w3 (w.heap.size + 1 + 1) 59 [.int .i64 2, .int .i64 0, .string s, .slice none 0 0] := by
    rw [hw3, ← s2]; exact RowIs.new w2 [.int .i64 2, .int .i64 0, .string s, .slice none 0 0] _
  have hB : Below w.heap.size w w3 := by
    rw [hw3, hw2, hw1]
    exact (((Below.refl _ w).alloc (Nat.le_refl _) _).alloc (by simp) _).alloc (by simp; omega) _
  have hO3 : w3.ownsRow w2.heap.size 59 4 (.slice (some ⟨w2.heap.size, 0, none⟩) 1 1) 1 (It.text s).cells := by
    rw [hw3]
    exact World.ownsRow_lit w2 _ 1 (Nat.le_refl _) (by unfold maxLen; omega) rfl
  obtain ⟨vi, hvi, hvz, hvs, hvb⟩ := value_info
  obtain ⟨v4, w4, E4, hO4, hG4⟩ := append_new hO3 (by omega) (t := 57) (by kernel_rfl) hvi hvz hvs hvb rfl (by omega) (It.int z).cells rfl (it_one _) 59 (by omega) (by omega)
  have hBw4 : Below w2.heap.size w3 w4 := hG4.belowR hO3 (by omega)
  obtain ⟨gv, capv, rfl, hcapv, hgv, hgv2, hits⟩ := its_two hO4
  rw [s2] at E4 hBw4
  rw [show (It.int z).cells.toArray = #[.int .i64 1, .int .i64 z, .string ⟨#[]⟩, .slice none 0 0] from rfl] at E4
  have hgi3 : w3.cell? ⟨gi, 0, none⟩ = some (.int .i64 z) := ((bcell hB).1 _ _ (cell_lt hgi)).trans hgi
  replace r1 := r1.below hBw4 (by omega)
  replace r2 := r2.below hBw4 (by omega)
  have hB4 := hB.trans (hBw4.mono (by omega))
  have s4 : w.heap.size + 1 + 1 ≤ w4.heap.size := by have := hBw4.size; omega
  have C := Lib.hid (encode_list [.text s, .int z] (by intro x hx; simp at hx; rcases hx with rfl | rfl; exact hs; exact hz) gv capv hcapv (by simp) w4 hits hgv2)
  have HH := Lib.hid (And.intro r1 (And.intro r2 (And.intro hB4 (And.intro hd (And.intro hl s4)))))
  clear r1 r2 hits hB hd hl s2 s1 s3 hO3 hO4 hG4 hBw4 hB4 hgi hvi hvz hvs hvb hgv hgv2 hcapv
  go_enter Tryz.func17, Tryz.ntmps17
  go_upto_region 2 with fail
  rw [← hw1, ← hw2, ← hw3]
  clear hw1 hw2 hw3
  go_wp2_with fail
  refine wp_loop_rounds 2 ?_
  rw [rounds_succ]
  go_wp2_with fail
  rw [rounds_succ]
  go_wp2_with fail
  refine C.out.mono ?_
  rintro e w14 ⟨v4, rfl, hbs4, hB4⟩
  obtain ⟨a4, c4, rfl, -, hx4⟩ := hbs4.ex
  obtain ⟨g, off, rfl, hg, hby4⟩ := hx4 (by simp [encL])
  have henc : (encL [.text s, .int z]).length ≤ 1000100 := by
    have h1 := It.enc_len (.text s) hs
    have h1b := It.enc_len (.int z) hz
    have h2 : (numB [It.text s, It.int z].length).length ≤ 2 := numB_length 1 2 (by decide)
    have h3 : [It.text s, It.int z].flatMap It.enc = It.enc (.text s) ++ It.enc (.int z) := by simp
    simp only [It.len] at h1 h1b
    unfold encL
    rw [h3, List.length_append, List.length_append, List.length_cons]
    omega
  obtain ⟨en, hen⟩ : ∃ x, x = encL [.text s, .int z] := ⟨_, rfl⟩
  rw [← hen] at hbs4 hby4 henc ⊢
  clear hx4
  obtain ⟨w15, hw15⟩ : ∃ x, x = w14.alloc (.cells #[.slice none 0 0, .int .i64 0, .int .i8 0] 67) := ⟨_, rfl⟩
  have hzb : LibA.IsBuffer 67 (fun _ => none) 5 w14.heap.size w14.heap.size 0 [] w15 := by
    rw [hw15]; exact LibA.of_whole (Lib.fresh_isBuffer _ _ _)
  have hB5 : Below w14.heap.size w14 w15 := by rw [hw15]; exact (Below.refl _ w14).alloc (Nat.le_refl _) _
  have hs4 := hB4.size
  have hr1 := (HH.out.1.below hB4 (by omega)).below hB5 (by omega)
  have E1 := hr1.loads (P := Tryz.prog) 32 hdl
  have hl5 := HH.out.2.2.2.2.1.below (HH.out.2.2.1.trans ((hB4.mono (by omega)).trans (hB5.mono (by omega)))) HH.out.2.2.2.2.1.numLt HH.out.2.2.2.2.1.startLt
  have hb45 : Below w.heap.size w w15 := HH.out.2.2.1.trans ((hB4.mono (by omega)).trans (hB5.mono (by omega)))
  have C5 := Lib.hid (key_any (B := w14.heap.size) (b := w14.heap.size) (l := []) (k := k) (w := w15) hzb hB5.size hk (by simp))
  rw [← HH.out.2.2.2.1] at C5
  have H5 := Lib.hid (And.intro hl5 (And.intro hb45 (And.intro ((HH.out.2.1.below hB4 (by omega)).below hB5 (by omega)) (And.intro (hby4.below hB5 hg) (And.intro hs4 (And.intro hB5.size (And.intro henc hen)))))))
  clear hzb hB5 hr1 hl5 hb45 hB4 hbs4 hby4 henc hen C
  go_upto_region 9 with fail
  rw [← hw15]
  clear hw15
  go_wp2_with fail
  refine C5.out.mono ?_
  rintro e w16 ⟨rfl, hI6, hB6⟩
  have h56 := H5.out.2.2.2.2.2.1
  have h55 := H5.out.2.2.2.2.1
  have C6 := Lib.hid (buf_write (B := w14.heap.size) (w := w16) hI6 (Nat.le_trans h56 hB6.size) g off c4 (H5.out.2.2.2.1.below hB6 hg) (by omega) (by have := H5.out.2.2.2.2.2.2.1; simp [hk]; omega))
  have H6 := Lib.hid (And.intro (H5.out.1.below (hB6.mono (show w.heap.size ≤ w14.heap.size by omega)) HH.out.2.2.2.2.1.numLt HH.out.2.2.2.2.1.startLt) (And.intro (H5.out.2.1.trans (hB6.mono (by omega))) (And.intro (H5.out.2.2.1.below hB6 (by omega)) hB6.size)))
  clear hI6 hB6 C5 h56 h55
  go_wp2_with fail
  refine C6.out.mono ?_
  rintro e w17 ⟨⟨v7, rfl⟩, hI7, hB7⟩
  have C7 := Lib.hid (under_any hI7 derive_ (by decide) (by have := H5.out.2.2.2.2.2.2.1; simp [hk]; omega) (H6.out.1.below (hB7.mono (show w.heap.size ≤ w14.heap.size by have := H5.out.2.2.2.2.1; omega)) HH.out.2.2.2.2.1.numLt HH.out.2.2.2.2.1.startLt))
  have H7 := Lib.hid (And.intro (H6.out.2.1.trans (hB7.mono (by have := H5.out.2.2.2.2.1; omega))) (And.intro (H6.out.2.2.1.below hB7 (by have := H5.out.2.2.2.2.1; omega)) hB7.size))
  clear hI7 hB7 C6
  go_wp2_with fail
  refine C7.out.mono ?_
  rintro e w18 ⟨rfl, hB8⟩
  obtain ⟨o, ho⟩ : ∃ o, o = bytesV (Chart.tagged derive_.data.toList ([] ++ k ++ en)) := ⟨_, rfl⟩
  have hol : o.length = 32 := by rw [ho, List.length_map, Chart.tagged_length]
  rw [← ho]
  have hr8 := H7.out.2.1.below hB8 H7.out.2.1.lt
  have E8 := hr8.stores (P := Tryz.prog) o (by rw [hol]; rfl) (by rw [ho]; exact oneCell_bytes _)
  obtain ⟨w19, hw19⟩ : ∃ x, x = w18.setRow (w.heap.size + 1) o.toArray := ⟨_, rfl⟩
  rw [← hw19] at E8
  have hR9 : RowIs w19 (w.heap.size + 1) 24 o := by rw [hw19]; exact hr8.setRow _
  have hB9 : Below w.heap.size w w19 := by rw [hw19]; exact below_setRow (H7.out.1.trans (hB8.mono (by have := H7.out.2.1.lt; omega))) (by omega) _
  have Ho := Lib.hid ho
  clear ho hw19 hr8 hB8 C7
  go_wp2_with fail
  refine bodyPost_ret (results_cell_row (d := .array 32 5) rfl _ _ (w.heap.size + 1) _ o.toArray (0, 0) rfl hR9 (by kernel_rfl) rfl (by rw [List.size_toArray, hol]; kernel_rfl)) rfl ?_
  refine ⟨?_, hB9⟩
  rw [Ho.out, H5.out.2.2.2.2.2.2.2]
  rfl
end Go.Proofs.YtgklcfipgdbbgaaGreatDoor
