/- The plain law of the proxy: powers of 4 modulo P, whose order is the prime Q; what is locked is opened. No program is in sight. -/
import Derived.Test.YtejjincnghmbbaaGreatDoorM8
namespace Chart

def P : Nat := 4611686018427377339
theorem P_pos : 0 < P := by decide
theorem Q_val : Q = 2305843009213688669 := rfl

/-- The inverse of a scalar. -/
def finv (x : Nat) : Nat := x ^ (Q - 2) % Q
theorem finv_lt (x : Nat) : finv x < Q := Nat.mod_lt _ (by decide)
theorem mul_finv {x : Nat} (h0 : 0 < x) (h : x < Q) : x * finv x % Q = 1 := by
  unfold finv
  rw [Nat.mul_mod_mod, Nat.mul_comm, ← Nat.pow_succ]
  refine prime_Q.fermat (fun hd => ?_)
  have := Nat.le_of_dvd h0 hd
  omega
theorem finv_pos {x : Nat} (h0 : 0 < x) (h : x < Q) : 0 < finv x := by
  apply Nat.pos_of_ne_zero
  intro h1
  have := mul_finv h0 h
  rw [h1] at this
  simp at this

theorem not_dvd_mul {x y : Nat} (hx0 : 0 < x) (hx : x < Q) (hy0 : 0 < y) (hy : y < Q) : 0 < x * y % Q := by
  apply Nat.pos_of_ne_zero
  intro h
  rcases prime_Q.dvd_mul (Nat.dvd_of_mod_eq_zero h) with h | h
  · have := Nat.le_of_dvd hx0 h; omega
  · have := Nat.le_of_dvd hy0 h; omega

/-- Powers of the generator. -/
def E (k : Nat) : Nat := 4 ^ k % P
theorem E_lt (k : Nat) : E k < P := Nat.mod_lt _ P_pos
theorem E_def (k : Nat) : E k = 4 ^ k % P := rfl
theorem four_Q : 4 ^ Q % P = 1 := by
  rw [← pm_eq P 4 64 Q (by decide)]
  decide +kernel
theorem E_Q : E Q = 1 := (E_def Q).trans four_Q
theorem E_add (a b : Nat) : E a * E b % P = E (a + b) := by
  unfold E
  rw [← Nat.mul_mod, ← Nat.pow_add]
theorem E_pow (a b : Nat) : E a ^ b % P = E (a * b) := by
  unfold E
  rw [← Nat.pow_mod, ← Nat.pow_mul]
/-- Exponents count modulo Q. -/
theorem pow_rest {a : Nat} (h : a ^ Q % P = 1) (k : Nat) : a ^ (k % Q) % P = a ^ k % P := by
  have h1 : a ^ (Q * (k / Q)) % P = 1 := pow_mod_mul (m := P) (a := a) (x := Q) (by rw [h]; rfl) (k / Q)
  have e : a ^ k % P = a ^ (Q * (k / Q)) * a ^ (k % Q) % P := by rw [← Nat.pow_add, Nat.div_add_mod]
  rw [e, Nat.mul_mod, h1, Nat.one_mul, Nat.mod_mod]
theorem E_rest (k : Nat) : E (k % Q) = E k := by rw [E_def, E_def, pow_rest four_Q]
theorem E_congr {a b : Nat} (h : a % Q = b % Q) : E a = E b := by rw [← E_rest a, ← E_rest b, h]
theorem E_elem (k : Nat) : 1 ≤ E k ∧ E k < P ∧ E k ^ Q % P = 1 := by
  have h : E k ^ Q % P = 1 := by
    rw [E_pow, E_congr (b := Q) (by simp), E_Q]
  refine ⟨?_, E_lt k, h⟩
  apply Nat.pos_of_ne_zero
  intro h0
  rw [h0, Nat.zero_pow (by decide)] at h
  simp at h
theorem elem_pow {a : Nat} (h : 1 ≤ a ∧ a < P ∧ a ^ Q % P = 1) (k : Nat) : 1 ≤ a ^ k % P ∧ a ^ k % P < P ∧ (a ^ k % P) ^ Q % P = 1 := by
  have h1 : (a ^ k % P) ^ Q % P = 1 := by
    rw [← Nat.pow_mod, ← Nat.pow_mul, Nat.mul_comm, Nat.pow_mul, Nat.pow_mod, h.2.2, Nat.one_pow]
    decide
  refine ⟨?_, Nat.mod_lt _ P_pos, h1⟩
  apply Nat.pos_of_ne_zero
  intro h0
  rw [h0, Nat.zero_pow (by decide)] at h1
  simp at h1
theorem elem_mul {a b : Nat} (h : 1 ≤ a ∧ a < P ∧ a ^ Q % P = 1) (g : 1 ≤ b ∧ b < P ∧ b ^ Q % P = 1) : 1 ≤ a * b % P ∧ a * b % P < P ∧ (a * b % P) ^ Q % P = 1 := by
  have h1 : (a * b % P) ^ Q % P = 1 := by
    rw [← Nat.pow_mod, Nat.mul_pow, Nat.mul_mod, h.2.2, g.2.2]
    decide
  refine ⟨?_, Nat.mod_lt _ P_pos, h1⟩
  apply Nat.pos_of_ne_zero
  intro h0
  rw [h0, Nat.zero_pow (by decide)] at h1
  simp at h1

/-- x * inverse of x leaves 1, with the factor k. -/
theorem scale {x i : Nat} (h : x * i % Q = 1) (k : Nat) : x * k * i % Q = k % Q := by
  rw [Nat.mul_assoc, Nat.mul_comm k i, ← Nat.mul_assoc, Nat.mul_mod, h, Nat.one_mul, Nat.mod_mod]

/-- The element of the key that the private key x finds in the capsule (a, b). -/
def found (x a b : Nat) : Nat := b * ((a ^ finv x % P) ^ (Q - 1) % P) % P

theorem E_back (a b : Nat) : E (a + b) * E (b * (Q - 1)) % P = E a := by
  rw [E_add]
  apply E_congr
  have : a + b + b * (Q - 1) = a + Q * b := by
    rw [Q_val]; omega
  rw [this, Nat.add_mul_mod_self_left]

/-- Open finds the element of the mask. -/
theorem found_own {x : Nat} (h0 : 0 < x) (h : x < Q) (r s : Nat) : found x (E (x * r)) (E (s + r)) = E s := by
  unfold found
  rw [E_pow, E_congr (scale (mul_finv h0 h) r), E_pow, E_back]

/-- The factor from x to y. -/
def factor (x y : Nat) : Nat := y * finv x % Q
theorem factor_lt (x y : Nat) : factor x y < Q := Nat.mod_lt _ (by decide)
theorem factor_pos {x y : Nat} (hx0 : 0 < x) (hx : x < Q) (hy0 : 0 < y) (hy : y < Q) : 0 < factor x y :=
  not_dvd_mul hy0 hy (finv_pos hx0 hx) (finv_lt x)

theorem turned {x y : Nat} (h0 : 0 < x) (h : x < Q) (r : Nat) : E (x * r) ^ factor x y % P = E (y * r) := by
  unfold factor
  rw [pow_rest (E_elem _).2.2, E_pow]
  apply E_congr
  have e : x * r * (y * finv x) = x * (r * y) * finv x := by
    rw [Nat.mul_assoc, Nat.mul_assoc, Nat.mul_assoc]
  rw [e, scale (mul_finv h0 h), Nat.mul_comm]

theorem factor_self {x : Nat} (h0 : 0 < x) (h : x < Q) : factor x x = 1 := mul_finv h0 h
theorem factor_trans {x y : Nat} (z : Nat) (hy0 : 0 < y) (hy : y < Q) : factor x y * factor y z % Q = factor x z := by
  unfold factor
  rw [← Nat.mul_mod]
  have e : y * finv x * (z * finv y) = y * (finv x * z) * finv y := by
    simp only [Nat.mul_assoc]
  rw [e, scale (mul_finv hy0 hy), Nat.mul_comm]
theorem factor_back {x y : Nat} (hx0 : 0 < x) (hx : x < Q) (hy0 : 0 < y) (hy : y < Q) : factor x y * factor y x % Q = 1 := by
  rw [factor_trans x hy0 hy, factor_self hx0 hx]

/-- Turning by x and then by y is turning by the product. -/
theorem turn_prod {a : Nat} (h : a ^ Q % P = 1) (x y : Nat) : (a ^ x % P) ^ y % P = a ^ (x * y % Q) % P := by
  rw [← Nat.pow_mod, ← Nat.pow_mul, pow_rest h]
theorem turn_back {a x : Nat} (h : a ^ Q % P = 1) (ha : a < P) (h0 : 0 < x) (hx : x < Q) : (a ^ x % P) ^ finv x % P = a := by
  rw [turn_prod h, mul_finv h0 hx, Nat.pow_one, Nat.mod_eq_of_lt ha]

theorem one_P : 1 = 1 % P := by decide
theorem four_unit : Nat.gcd P 4 = 1 := by decide
theorem gcd_one {q k : Nat} (h0 : 4 ^ q % P = 1) (h : 4 ^ k % P = 1) : 4 ^ Nat.gcd q k % P = 1 :=
  (pow_gcd (m := P) (fun _ _ e => cancel four_unit e) q k (h0.trans one_P) (h.trans one_P)).trans one_P.symm
theorem E_one {k : Nat} (h : E k = 1) : k % Q = 0 := by
  rw [E_def] at h
  have h1 := gcd_one four_Q h
  rcases prime_Q.2 _ (Nat.gcd_dvd_left Q k) with e | e
  · rw [e] at h1
    exact absurd h1 (by decide)
  · exact Nat.mod_eq_zero_of_dvd (e ▸ Nat.gcd_dvd_right Q k)
theorem E_unit (k : Nat) : Nat.gcd P (4 ^ k) = 1 := by
  induction k with
  | zero => simp
  | succ k ih =>
    rw [Nat.pow_succ]
    exact Nat.Coprime.mul_right ih four_unit
theorem E_inj {a k : Nat} (h : E (a + k) = E a) : k % Q = 0 := by
  apply E_one
  unfold E at *
  rw [Nat.pow_add] at h
  have := cancel (E_unit a) (u := 4 ^ k) (v := 1) (by rw [h, Nat.mul_one])
  rw [this]
  decide

/-- Another private key finds another element. -/
theorem found_other {x y r : Nat} (hx0 : 0 < x) (hx : x < Q) (hy0 : 0 < y) (hy : y < Q) (hxy : x ≠ y) (hr0 : 0 < r) (hr : r < Q) (s : Nat) :
    found y (E (x * r)) (E (s + r)) ≠ E s := by
  unfold found
  intro h
  rw [E_pow, E_pow, E_add] at h
  rw [Nat.add_assoc] at h
  have h1 := E_inj h
  have h2 : (r + x * r * finv y * (Q - 1)) * y % Q = 0 := by rw [Nat.mul_mod, h1]; simp
  have e : (r + x * r * finv y * (Q - 1)) * y = r * y + y * (x * r * (Q - 1)) * finv y := by
    rw [Nat.add_mul]
    congr 1
    simp only [Nat.mul_assoc, Nat.mul_comm, Nat.mul_left_comm]
  rw [e, Nat.add_mod, scale (mul_finv hy0 hy), ← Nat.add_mod] at h2
  have e2 : r * y + x * r * (Q - 1) = r * (y + x * (Q - 1)) := by
    rw [Nat.mul_add]
    congr 1
    simp only [Nat.mul_assoc, Nat.mul_left_comm]
  rw [e2] at h2
  rcases prime_Q.dvd_mul (Nat.dvd_of_mod_eq_zero h2) with hd | hd
  · have := Nat.le_of_dvd hr0 hd; omega
  · obtain ⟨t, ht⟩ := hd
    rw [Q_val] at *
    omega

/-- The private key that a number stands for. -/
def keyOf (n : Nat) : Nat := 1 + n % (Q - 1)
theorem keyOf_pos (n : Nat) : 0 < keyOf n := by unfold keyOf; omega
theorem keyOf_lt (n : Nat) : keyOf n < Q := by
  unfold keyOf
  have := Nat.mod_lt n (show 0 < Q - 1 by decide)
  omega
end Chart
