/- Number theory in plain Lean: Euclid's lemma, Fermat's little theorem, Pocklington's test, powers modulo m by repeated squaring. No program is in sight. -/
namespace Chart

/-- A prime number. -/
def Prime (p : Nat) : Prop := 2 ≤ p ∧ ∀ d, d ∣ p → d = 1 ∨ d = p

theorem Prime.coprime {p a : Nat} (hp : Prime p) (h : ¬ p ∣ a) : Nat.gcd p a = 1 := by
  rcases hp.2 _ (Nat.gcd_dvd_left p a) with e | e
  · exact e
  · exact absurd (e ▸ Nat.gcd_dvd_right p a) h

theorem dvd_of_gcd_mul {p a b : Nat} (hg : Nat.gcd p a = 1) (h : p ∣ a * b) : p ∣ b := by
  have h1 : p ∣ Nat.gcd (p * b) (a * b) := Nat.dvd_gcd (Nat.dvd_mul_right p b) h
  rwa [Nat.gcd_mul_right, hg, Nat.one_mul] at h1

theorem Prime.dvd_mul {p a b : Nat} (hp : Prime p) (h : p ∣ a * b) : p ∣ a ∨ p ∣ b := by
  by_cases ha : p ∣ a
  · exact .inl ha
  · exact .inr (dvd_of_gcd_mul (hp.coprime ha) h)

theorem Prime.dvd_pow {p a n : Nat} (hp : Prime p) (h : p ∣ a ^ n) : p ∣ a := by
  induction n with
  | zero =>
    have h1 := Nat.le_of_dvd (by simp) h
    have := hp.1
    simp at h1
    omega
  | succ n ih =>
    rw [Nat.pow_succ] at h
    rcases hp.dvd_mul h with h | h
    · exact ih h
    · exact h

def choose : Nat → Nat → Nat
  | _, 0 => 1
  | 0, _ + 1 => 0
  | n + 1, k + 1 => choose n k + choose n (k + 1)

theorem choose_zero (n : Nat) : choose n 0 = 1 := by cases n <;> rfl
theorem choose_gt (n : Nat) : ∀ k, n < k → choose n k = 0 := by
  induction n with
  | zero => intro k hk; cases k with | zero => omega | succ k => rfl
  | succ n ih =>
    intro k hk
    cases k with
    | zero => omega
    | succ k => simp only [choose]; rw [ih k (by omega), ih (k + 1) (by omega)]
theorem choose_self (n : Nat) : choose n n = 1 := by
  induction n with
  | zero => rfl
  | succ n ih => simp only [choose]; rw [ih, choose_gt n (n + 1) (by omega)]
theorem choose_absorb (n : Nat) : ∀ k, (k + 1) * choose (n + 1) (k + 1) = (n + 1) * choose n k := by
  induction n with
  | zero =>
    intro k
    cases k with
    | zero => rfl
    | succ k => simp [choose]
  | succ n ih =>
    intro k
    cases k with
    | zero =>
      have h := ih 0
      simp only [choose_zero, choose] at h ⊢
      omega
    | succ k =>
      have h1 := ih k
      have h2 := ih (k + 1)
      have e1 : choose (n + 1 + 1) (k + 1 + 1) = choose (n + 1) (k + 1) + choose (n + 1) (k + 1 + 1) := rfl
      have e2 : choose (n + 1) (k + 1) = choose n k + choose n (k + 1) := rfl
      rw [e1, Nat.mul_add, h2]
      have e3 : (k + 1 + 1) * choose (n + 1) (k + 1) = (n + 1) * choose n k + choose (n + 1) (k + 1) := by
        rw [← h1, Nat.succ_mul]
      rw [e3, e2]
      generalize choose n k = x
      generalize choose n (k + 1) = y
      simp only [Nat.add_mul, Nat.mul_add, Nat.one_mul]
      omega

/-- The sum of choose n k * a ^ k over k < m. -/
def bsum (n a : Nat) : Nat → Nat
  | 0 => 0
  | m + 1 => bsum n a m + choose n m * a ^ m

theorem bsum_step (n a : Nat) : ∀ m, bsum (n + 1) a (m + 1) = bsum n a (m + 1) + a * bsum n a m := by
  intro m
  induction m with
  | zero => simp [bsum, choose_zero]
  | succ m ih =>
    have e : bsum (n + 1) a (m + 1 + 1) = bsum (n + 1) a (m + 1) + choose (n + 1) (m + 1) * a ^ (m + 1) := rfl
    rw [e, ih]
    have e1 : bsum n a (m + 1 + 1) = bsum n a (m + 1) + choose n (m + 1) * a ^ (m + 1) := rfl
    have e2 : bsum n a (m + 1) = bsum n a m + choose n m * a ^ m := rfl
    have e3 : choose (n + 1) (m + 1) = choose n m + choose n (m + 1) := rfl
    rw [e1, e3, Nat.add_mul, e2, Nat.mul_add a]
    have e4 : a * (choose n m * a ^ m) = choose n m * a ^ (m + 1) := by
      rw [Nat.pow_succ]; ac_rfl
    rw [e4]
    omega

theorem bsum_pow (n a : Nat) : bsum n a (n + 1) = (a + 1) ^ n := by
  induction n with
  | zero => simp [bsum, choose_zero]
  | succ n ih =>
    rw [bsum_step, ih]
    have : bsum n a (n + 1 + 1) = bsum n a (n + 1) := by
      show bsum n a (n + 1) + choose n (n + 1) * a ^ (n + 1) = _
      rw [choose_gt n (n + 1) (by omega), Nat.zero_mul, Nat.add_zero]
    rw [this, ih, Nat.pow_succ, Nat.mul_add, Nat.mul_one, Nat.mul_comm a, Nat.add_comm]

theorem Prime.dvd_choose {p k : Nat} (hp : Prime p) (h0 : 0 < k) (h1 : k < p) : p ∣ choose p k := by
  obtain ⟨n, rfl⟩ : ∃ n, p = n + 1 := ⟨p - 1, by omega⟩
  obtain ⟨k, rfl⟩ : ∃ j, k = j + 1 := ⟨k - 1, by omega⟩
  have h := choose_absorb n k
  have hd : n + 1 ∣ (k + 1) * choose (n + 1) (k + 1) := ⟨_, h⟩
  rcases hp.dvd_mul hd with h | h
  · have := Nat.le_of_dvd (by omega) h
    omega
  · exact h

theorem bsum_mod {p : Nat} (hp : Prime p) (a : Nat) : ∀ m, 0 < m → m ≤ p → bsum p a m % p = 1 % p := by
  intro m h0 h1
  induction m with
  | zero => omega
  | succ m ih =>
    by_cases hm : m = 0
    · subst hm; simp [bsum, choose_zero]
    · have hd : choose p m * a ^ m % p = 0 := Nat.mod_eq_zero_of_dvd (Nat.dvd_trans (hp.dvd_choose (by omega) (by omega)) (Nat.dvd_mul_right _ _))
      show (bsum p a m + choose p m * a ^ m) % p = _
      rw [Nat.add_mod, hd, ih (by omega) (by omega)]
      simp

theorem Prime.pow_self {p : Nat} (hp : Prime p) (a : Nat) : a ^ p % p = a % p := by
  induction a with
  | zero => rw [Nat.zero_pow (by have := hp.1; omega)]
  | succ a ih =>
    rw [← bsum_pow]
    show (bsum p a p + choose p p * a ^ p) % p = _
    rw [choose_self, Nat.one_mul, Nat.add_mod, bsum_mod hp a p (by have := hp.1; omega) (Nat.le_refl _), ih]
    rw [← Nat.add_mod, Nat.add_comm]

/-- Fermat's little theorem. -/
theorem Prime.fermat {p a : Nat} (hp : Prime p) (h : ¬ p ∣ a) : a ^ (p - 1) % p = 1 := by
  have h2 := hp.1
  have hs := hp.pow_self a
  obtain ⟨n, rfl⟩ : ∃ n, p = n + 1 := ⟨p - 1, by omega⟩
  simp only [Nat.add_sub_cancel]
  have h0 : 0 < a := by
    rcases Nat.eq_zero_or_pos a with e | e
    · exact absurd (e ▸ Nat.dvd_zero _) h
    · exact e
  have hle : 1 ≤ a ^ n := Nat.pos_of_ne_zero (by simp; omega)
  have hd : n + 1 ∣ a * (a ^ n - 1) := by
    have e : a * (a ^ n - 1) = a ^ (n + 1) - a := by rw [Nat.mul_sub, Nat.mul_one, Nat.pow_succ, Nat.mul_comm]
    rw [e]
    exact Nat.dvd_of_mod_eq_zero (Nat.sub_mod_eq_zero_of_mod_eq hs)
  rcases hp.dvd_mul hd with h' | h'
  · exact absurd h' h
  · obtain ⟨c, hc⟩ := h'
    have : a ^ n = (n + 1) * c + 1 := by omega
    rw [this, Nat.mul_add_mod, Nat.mod_eq_of_lt (by omega)]


/-- a ^ n modulo m by repeated squaring, with at most k bits of n. -/
def pm (m a : Nat) : Nat → Nat → Nat
  | 0, _ => 1 % m
  | k + 1, n => if n = 0 then 1 % m else
    let h := pm m a k (n / 2)
    if n % 2 = 1 then h * h % m * a % m else h * h % m

theorem pm_eq (m a : Nat) : ∀ k n, n < 2 ^ k → pm m a k n = a ^ n % m := by
  intro k
  induction k with
  | zero =>
    intro n h
    have h0 : n = 0 := by simpa using h
    subst h0
    simp [pm]
  | succ k ih =>
    intro n h
    simp only [pm]
    by_cases h0 : n = 0
    · simp [h0]
    · rw [if_neg h0, ih (n / 2) (by rw [Nat.pow_succ] at h; omega)]
      have hsq : a ^ (n / 2) % m * (a ^ (n / 2) % m) % m = a ^ (n / 2 + n / 2) % m := by rw [← Nat.mul_mod, ← Nat.pow_add]
      rw [hsq]
      by_cases h1 : n % 2 = 1
      · rw [if_pos h1, Nat.mod_mul_mod, ← Nat.pow_succ]
        congr 2
        omega
      · rw [if_neg h1]
        congr 2
        omega

theorem pow_mod_mul {m a x : Nat} (h : a ^ x % m = 1 % m) (y : Nat) : a ^ (x * y) % m = 1 % m := by
  rw [Nat.pow_mul, Nat.pow_mod, h, ← Nat.pow_mod, Nat.one_pow]

/-- If a ^ x and a ^ y are 1 modulo m, so is a ^ gcd x y. -/
theorem pow_gcd {m a : Nat} (hu : ∀ u v, a * u % m = a * v % m → u % m = v % m) : ∀ x y, a ^ x % m = 1 % m → a ^ y % m = 1 % m → a ^ Nat.gcd x y % m = 1 % m := by
  have hun : ∀ n u v, a ^ n * u % m = a ^ n * v % m → u % m = v % m := by
    intro n
    induction n with
    | zero => intro u v h; simpa using h
    | succ n ih =>
      intro u v h
      rw [Nat.pow_succ, Nat.mul_assoc, Nat.mul_assoc] at h
      exact hu _ _ (ih _ _ h)
  intro x
  induction x using Nat.strongRecOn with
  | _ x ih =>
    intro y hx hy
    by_cases h0 : x = 0
    · subst h0; simpa using hy
    · rw [Nat.gcd_rec]
      refine ih (y % x) (Nat.mod_lt _ (by omega)) x ?_ hx
      have e : a ^ y % m = a ^ (x * (y / x)) * a ^ (y % x) % m := by rw [← Nat.pow_add, Nat.div_add_mod]
      rw [Nat.mul_mod, pow_mod_mul hx, ← Nat.mul_mod, Nat.one_mul] at e
      rw [← e, hy]

theorem cancel {m a : Nat} (hg : Nat.gcd m a = 1) {u v : Nat} (h : a * u % m = a * v % m) : u % m = v % m := by
  have key : ∀ u v, v ≤ u → a * u % m = a * v % m → u % m = v % m := by
    intro u v hle h
    have h1 := Nat.dvd_of_mod_eq_zero (Nat.sub_mod_eq_zero_of_mod_eq h)
    rw [← Nat.mul_sub] at h1
    obtain ⟨c, hc⟩ := dvd_of_gcd_mul hg h1
    obtain rfl : u = v + m * c := by omega
    simp
  rcases Nat.le_total v u with hle | hle
  · exact key u v hle h
  · exact (key v u hle h.symm).symm

/-- Every number above 1 has a prime factor, and a prime factor at most its root if it is not prime. -/
theorem exists_prime (n : Nat) (h : 2 ≤ n) : ∃ p, Prime p ∧ p ∣ n := by
  induction n using Nat.strongRecOn with
  | _ n ih =>
    by_cases hp : Prime n
    · exact ⟨n, hp, Nat.dvd_refl n⟩
    · have : ∃ d, d ∣ n ∧ d ≠ 1 ∧ d ≠ n := by
        apply Classical.byContradiction
        intro hc
        refine hp ⟨h, fun d hd => ?_⟩
        by_cases h1 : d = 1
        · exact .inl h1
        · refine .inr ?_
          apply Classical.byContradiction
          intro h2
          exact hc ⟨d, hd, h1, h2⟩
      obtain ⟨d, hd, h1, h2⟩ := this
      have hle := Nat.le_of_dvd (by omega) hd
      have h0 : d ≠ 0 := by rintro rfl; have := Nat.eq_zero_of_zero_dvd hd; omega
      obtain ⟨p, hp, hpd⟩ := ih d (by omega) (by omega)
      exact ⟨p, hp, Nat.dvd_trans hpd hd⟩

theorem prime_of_small {n : Nat} (h : 2 ≤ n) (hs : ∀ p, Prime p → p ∣ n → n < p * p) : Prime n := by
  refine ⟨h, fun d hd => ?_⟩
  apply Classical.byContradiction
  intro hc
  have h1 : d ≠ 1 := fun e => hc (.inl e)
  have h2 : d ≠ n := fun e => hc (.inr e)
  obtain ⟨c, hcd⟩ := hd
  have hc1 : c ≠ 1 := by rintro rfl; omega
  have hd0 : d ≠ 0 := by rintro rfl; simp at hcd; omega
  have hc0 : c ≠ 0 := by rintro rfl; simp at hcd; omega
  obtain ⟨p, hp, hpd⟩ := exists_prime d (by omega)
  obtain ⟨q, hq, hqc⟩ := exists_prime c (by omega)
  have a1 := hs p hp (Nat.dvd_trans hpd ⟨c, hcd⟩)
  have a2 := hs q hq (Nat.dvd_trans hqc ⟨d, by rw [hcd, Nat.mul_comm]⟩)
  have b1 := Nat.le_of_dvd (by omega) hpd
  have b2 := Nat.le_of_dvd (by omega) hqc
  have : p * q ≤ n := by rw [hcd]; exact Nat.mul_le_mul b1 b2
  rcases Nat.le_total p q with hle | hle
  · have := Nat.mul_le_mul_left p hle; omega
  · have := Nat.mul_le_mul_left q hle; rw [Nat.mul_comm q p] at this; omega

/-- Pocklington's test with one prime q. -/
theorem pocklington {n q a : Nat} (h : 2 ≤ n) (hq : Prime q) (hd : q ∣ n - 1) (hlt : n < (q + 1) * (q + 1)) (h1 : a ^ (n - 1) % n = 1) (h2 : Nat.gcd n (a ^ ((n - 1) / q) % n + (n - 1)) = 1) : Prime n := by
  refine prime_of_small h fun p hp hpn => ?_
  have hp2 := hp.1
  obtain ⟨k, hk⟩ := hd
  have hq2 := hq.1
  have hkq : (n - 1) / q = k := by rw [hk, Nat.mul_div_cancel_left _ (by omega)]
  rw [hkq] at h2
  have down : ∀ x y, x % n = y % n → x % p = y % p := fun x y e => by
    rw [← Nat.mod_mod_of_dvd x hpn, ← Nat.mod_mod_of_dvd y hpn, e]
  have hb : (a ^ k) ^ q % p = 1 % p := by
    rw [← Nat.pow_mul, Nat.mul_comm, ← hk]
    exact down _ _ (by rw [h1, Nat.mod_eq_of_lt (by omega)])
  have hbp : ¬ p ∣ a ^ k := by
    intro hdv
    have := Nat.mod_eq_zero_of_dvd (Nat.dvd_trans hdv (Nat.dvd_mul_right (a ^ k) ((a ^ k) ^ (q - 1))))
    rw [← Nat.pow_succ', Nat.succ_eq_add_one, show q - 1 + 1 = q by omega, hb, Nat.mod_eq_of_lt (by omega)] at this
    omega
  have hf := hp.fermat hbp
  by_cases hg : Nat.gcd q (p - 1) = 1
  · exfalso
    have := pow_gcd (m := p) (a := a ^ k) (fun u v e => cancel (hp.coprime hbp) e) q (p - 1) hb (by rw [hf, Nat.mod_eq_of_lt (by omega)])
    rw [hg, Nat.pow_one] at this
    have hx : p ∣ a ^ k % n + (n - 1) := by
      refine Nat.dvd_of_mod_eq_zero ?_
      rw [Nat.add_mod, Nat.mod_mod_of_dvd _ hpn, this]
      rw [← Nat.add_mod]
      rw [show 1 + (n - 1) = n by omega]
      exact Nat.mod_eq_zero_of_dvd hpn
    have := Nat.dvd_gcd hpn hx
    rw [h2] at this
    have := Nat.le_of_dvd (by omega) this
    omega
  · have hqd : q ∣ p - 1 := by
      apply Classical.byContradiction
      intro hn
      exact hg (hq.coprime hn)
    have := Nat.le_of_dvd (by omega) hqd
    exact Nat.lt_of_lt_of_le hlt (Nat.mul_le_mul (by omega) (by omega))


/-- No number from d on, k of them, divides n. -/
def none_divides (n : Nat) : Nat → Nat → Bool
  | 0, _ => true
  | k + 1, d => n % d != 0 && none_divides n k (d + 1)

theorem none_divides_ok (n : Nat) : ∀ k d, none_divides n k d = true → ∀ x, d ≤ x → x < d + k → ¬ x ∣ n := by
  intro k
  induction k with
  | zero => intro d _ x h1 h2; omega
  | succ k ih =>
    intro d h x h1 h2
    simp only [none_divides, Bool.and_eq_true, bne_iff_ne] at h
    by_cases e : x = d
    · subst e; intro hd; exact h.1 (Nat.mod_eq_zero_of_dvd hd)
    · exact ih (d + 1) h.2 x (by omega) (by omega)

theorem prime_of_trial {n k : Nat} (h : 2 ≤ n) (hk : n < (2 + k) * (2 + k)) (ht : none_divides n k 2 = true) : Prime n := by
  refine prime_of_small h fun p hp hpn => ?_
  have h1 := none_divides_ok n k 2 ht p hp.1
  have : 2 + k ≤ p := by
    apply Classical.byContradiction
    intro hc
    exact h1 (by omega) hpn
  exact Nat.lt_of_lt_of_le hk (Nat.mul_le_mul this this)

/-- Pocklington's test, its powers reckoned by 'pm'. -/
theorem pocklington' {n q a k : Nat} (h : 2 ≤ n) (hq : Prime q) (hd : n - 1 = q * k) (hlt : n < (q + 1) * (q + 1)) (hb : n < 2 ^ 64) (h1 : pm n a 64 (n - 1) = 1)
    (h2 : Nat.gcd n (pm n a 64 k + (n - 1)) = 1) : Prime n := by
  have hk : (n - 1) / q = k := by rw [hd, Nat.mul_div_cancel_left _ (by have := hq.1; omega)]
  have hkn : k < 2 ^ 64 := by rw [← hk]; exact Nat.lt_of_le_of_lt (Nat.div_le_self _ _) (by omega)
  refine pocklington (a := a) h hq ⟨k, hd⟩ hlt ?_ ?_
  · rw [← pm_eq n a 64 _ (by omega)]; exact h1
  · rw [hk, ← pm_eq n a 64 _ hkn]; exact h2

theorem prime0 : Prime 7930907 := prime_of_trial (k := 2816) (by decide) (by decide) (by decide +kernel)
theorem prime1 : Prime 11864636873 := pocklington' (q := 7930907) (a := 2) (k := 1496) (by decide) prime0 (by decide) (by decide) (by decide) (by decide +kernel) (by decide +kernel)
theorem prime2 : Prime 1732236983459 := pocklington' (q := 11864636873) (a := 2) (k := 146) (by decide) prime1 (by decide) (by decide) (by decide) (by decide +kernel) (by decide +kernel)
theorem prime3 : Prime 249442125618097 := pocklington' (q := 1732236983459) (a := 2) (k := 144) (by decide) prime2 (by decide) (by decide) (by decide) (by decide +kernel) (by decide +kernel)
theorem prime4 : Prime 2305843009213688669 := pocklington' (q := 249442125618097) (a := 2) (k := 9244) (by decide) prime3 (by decide) (by decide) (by decide) (by decide +kernel) (by decide +kernel)

/-- The order of the group. -/
def Q : Nat := 2305843009213688669
theorem prime_Q : Prime Q := prime4

end Chart

/- The plain law of the proxy: powers of 4 modulo P, whose order is the prime Q; what is locked is opened. No program is in sight. -/
namespace Chart

def P : Nat := 4611686018427377339
theorem P_pos : 0 < P := by decide
theorem Q_val : Q = 2305843009213688669 := rfl

/-- The inverse of a scalar. -/
def finv (x : Nat) : Nat := x ^ (Q - 2) % Q
theorem finv_lt (x : Nat) : finv x < Q := Nat.mod_lt _ (by decide)
theorem mul_finv {x : Nat} (h0 : 0 < x) (h : x < Q) : x * finv x % Q = 1 := by
  unfold finv
  rw [Nat.mul_mod_mod, Nat.mul_comm, ← Nat.pow_succ]
  refine prime_Q.fermat (fun hd => ?_)
  have := Nat.le_of_dvd h0 hd
  omega
theorem finv_pos {x : Nat} (h0 : 0 < x) (h : x < Q) : 0 < finv x := by
  apply Nat.pos_of_ne_zero
  intro h1
  have := mul_finv h0 h
  rw [h1] at this
  simp at this

theorem not_dvd_mul {x y : Nat} (hx0 : 0 < x) (hx : x < Q) (hy0 : 0 < y) (hy : y < Q) : 0 < x * y % Q := by
  apply Nat.pos_of_ne_zero
  intro h
  rcases prime_Q.dvd_mul (Nat.dvd_of_mod_eq_zero h) with h | h
  · have := Nat.le_of_dvd hx0 h; omega
  · have := Nat.le_of_dvd hy0 h; omega

/-- Powers of the generator. -/
def E (k : Nat) : Nat := 4 ^ k % P
theorem E_lt (k : Nat) : E k < P := Nat.mod_lt _ P_pos
theorem E_def (k : Nat) : E k = 4 ^ k % P := rfl
theorem four_Q : 4 ^ Q % P = 1 := by
  rw [← pm_eq P 4 64 Q (by decide)]
  decide +kernel
theorem E_Q : E Q = 1 := (E_def Q).trans four_Q
theorem E_add (a b : Nat) : E a * E b % P = E (a + b) := by
  unfold E
  rw [← Nat.mul_mod, ← Nat.pow_add]
theorem E_pow (a b : Nat) : E a ^ b % P = E (a * b) := by
  unfold E
  rw [← Nat.pow_mod, ← Nat.pow_mul]
/-- Exponents count modulo Q. -/
theorem pow_rest {a : Nat} (h : a ^ Q % P = 1) (k : Nat) : a ^ (k % Q) % P = a ^ k % P := by
  have h1 : a ^ (Q * (k / Q)) % P = 1 := pow_mod_mul (m := P) (a := a) (x := Q) (by rw [h]; rfl) (k / Q)
  have e : a ^ k % P = a ^ (Q * (k / Q)) * a ^ (k % Q) % P := by rw [← Nat.pow_add, Nat.div_add_mod]
  rw [e, Nat.mul_mod, h1, Nat.one_mul, Nat.mod_mod]
theorem E_rest (k : Nat) : E (k % Q) = E k := by rw [E_def, E_def, pow_rest four_Q]
theorem E_congr {a b : Nat} (h : a % Q = b % Q) : E a = E b := by rw [← E_rest a, ← E_rest b, h]
theorem E_elem (k : Nat) : 1 ≤ E k ∧ E k < P ∧ E k ^ Q % P = 1 := by
  have h : E k ^ Q % P = 1 := by
    rw [E_pow, E_congr (b := Q) (by simp), E_Q]
  refine ⟨?_, E_lt k, h⟩
  apply Nat.pos_of_ne_zero
  intro h0
  rw [h0, Nat.zero_pow (by decide)] at h
  simp at h
theorem elem_pow {a : Nat} (h : 1 ≤ a ∧ a < P ∧ a ^ Q % P = 1) (k : Nat) : 1 ≤ a ^ k % P ∧ a ^ k % P < P ∧ (a ^ k % P) ^ Q % P = 1 := by
  have h1 : (a ^ k % P) ^ Q % P = 1 := by
    rw [← Nat.pow_mod, ← Nat.pow_mul, Nat.mul_comm, Nat.pow_mul, Nat.pow_mod, h.2.2, Nat.one_pow]
    decide
  refine ⟨?_, Nat.mod_lt _ P_pos, h1⟩
  apply Nat.pos_of_ne_zero
  intro h0
  rw [h0, Nat.zero_pow (by decide)] at h1
  simp at h1
theorem elem_mul {a b : Nat} (h : 1 ≤ a ∧ a < P ∧ a ^ Q % P = 1) (g : 1 ≤ b ∧ b < P ∧ b ^ Q % P = 1) : 1 ≤ a * b % P ∧ a * b % P < P ∧ (a * b % P) ^ Q % P = 1 := by
  have h1 : (a * b % P) ^ Q % P = 1 := by
    rw [← Nat.pow_mod, Nat.mul_pow, Nat.mul_mod, h.2.2, g.2.2]
    decide
  refine ⟨?_, Nat.mod_lt _ P_pos, h1⟩
  apply Nat.pos_of_ne_zero
  intro h0
  rw [h0, Nat.zero_pow (by decide)] at h1
  simp at h1

/-- x * inverse of x leaves 1, with the factor k. -/
theorem scale {x i : Nat} (h : x * i % Q = 1) (k : Nat) : x * k * i % Q = k % Q := by
  rw [Nat.mul_assoc, Nat.mul_comm k i, ← Nat.mul_assoc, Nat.mul_mod, h, Nat.one_mul, Nat.mod_mod]

/-- The element of the key that the private key x finds in the capsule (a, b). -/
def found (x a b : Nat) : Nat := b * ((a ^ finv x % P) ^ (Q - 1) % P) % P

theorem E_back (a b : Nat) : E (a + b) * E (b * (Q - 1)) % P = E a := by
  rw [E_add]
  apply E_congr
  have : a + b + b * (Q - 1) = a + Q * b := by
    rw [Q_val]; omega
  rw [this, Nat.add_mul_mod_self_left]

/-- Open finds the element of the mask. -/
theorem found_own {x : Nat} (h0 : 0 < x) (h : x < Q) (r s : Nat) : found x (E (x * r)) (E (s + r)) = E s := by
  unfold found
  rw [E_pow, E_congr (scale (mul_finv h0 h) r), E_pow, E_back]

/-- The factor from x to y. -/
def factor (x y : Nat) : Nat := y * finv x % Q
theorem factor_lt (x y : Nat) : factor x y < Q := Nat.mod_lt _ (by decide)
theorem factor_pos {x y : Nat} (hx0 : 0 < x) (hx : x < Q) (hy0 : 0 < y) (hy : y < Q) : 0 < factor x y :=
  not_dvd_mul hy0 hy (finv_pos hx0 hx) (finv_lt x)

theorem turned {x y : Nat} (h0 : 0 < x) (h : x < Q) (r : Nat) : E (x * r) ^ factor x y % P = E (y * r) := by
  unfold factor
  rw [pow_rest (E_elem _).2.2, E_pow]
  apply E_congr
  have e : x * r * (y * finv x) = x * (r * y) * finv x := by
    rw [Nat.mul_assoc, Nat.mul_assoc, Nat.mul_assoc]
  rw [e, scale (mul_finv h0 h), Nat.mul_comm]

theorem factor_self {x : Nat} (h0 : 0 < x) (h : x < Q) : factor x x = 1 := mul_finv h0 h
theorem factor_trans {x y : Nat} (z : Nat) (hy0 : 0 < y) (hy : y < Q) : factor x y * factor y z % Q = factor x z := by
  unfold factor
  rw [← Nat.mul_mod]
  have e : y * finv x * (z * finv y) = y * (finv x * z) * finv y := by
    simp only [Nat.mul_assoc]
  rw [e, scale (mul_finv hy0 hy), Nat.mul_comm]
theorem factor_back {x y : Nat} (hx0 : 0 < x) (hx : x < Q) (hy0 : 0 < y) (hy : y < Q) : factor x y * factor y x % Q = 1 := by
  rw [factor_trans x hy0 hy, factor_self hx0 hx]

/-- Turning by x and then by y is turning by the product. -/
theorem turn_prod {a : Nat} (h : a ^ Q % P = 1) (x y : Nat) : (a ^ x % P) ^ y % P = a ^ (x * y % Q) % P := by
  rw [← Nat.pow_mod, ← Nat.pow_mul, pow_rest h]
theorem turn_back {a x : Nat} (h : a ^ Q % P = 1) (ha : a < P) (h0 : 0 < x) (hx : x < Q) : (a ^ x % P) ^ finv x % P = a := by
  rw [turn_prod h, mul_finv h0 hx, Nat.pow_one, Nat.mod_eq_of_lt ha]

theorem one_P : 1 = 1 % P := by decide
theorem four_unit : Nat.gcd P 4 = 1 := by decide
theorem gcd_one {q k : Nat} (h0 : 4 ^ q % P = 1) (h : 4 ^ k % P = 1) : 4 ^ Nat.gcd q k % P = 1 :=
  (pow_gcd (m := P) (fun _ _ e => cancel four_unit e) q k (h0.trans one_P) (h.trans one_P)).trans one_P.symm
theorem E_one {k : Nat} (h : E k = 1) : k % Q = 0 := by
  rw [E_def] at h
  have h1 := gcd_one four_Q h
  rcases prime_Q.2 _ (Nat.gcd_dvd_left Q k) with e | e
  · rw [e] at h1
    exact absurd h1 (by decide)
  · exact Nat.mod_eq_zero_of_dvd (e ▸ Nat.gcd_dvd_right Q k)
theorem E_unit (k : Nat) : Nat.gcd P (4 ^ k) = 1 := by
  induction k with
  | zero => simp
  | succ k ih =>
    rw [Nat.pow_succ]
    exact Nat.Coprime.mul_right ih four_unit
theorem E_inj {a k : Nat} (h : E (a + k) = E a) : k % Q = 0 := by
  apply E_one
  unfold E at *
  rw [Nat.pow_add] at h
  have := cancel (E_unit a) (u := 4 ^ k) (v := 1) (by rw [h, Nat.mul_one])
  rw [this]
  decide

/-- Another private key finds another element. -/
theorem found_other {x y r : Nat} (hx0 : 0 < x) (hx : x < Q) (hy0 : 0 < y) (hy : y < Q) (hxy : x ≠ y) (hr0 : 0 < r) (hr : r < Q) (s : Nat) :
    found y (E (x * r)) (E (s + r)) ≠ E s := by
  unfold found
  intro h
  rw [E_pow, E_pow, E_add] at h
  rw [Nat.add_assoc] at h
  have h1 := E_inj h
  have h2 : (r + x * r * finv y * (Q - 1)) * y % Q = 0 := by rw [Nat.mul_mod, h1]; simp
  have e : (r + x * r * finv y * (Q - 1)) * y = r * y + y * (x * r * (Q - 1)) * finv y := by
    rw [Nat.add_mul]
    congr 1
    simp only [Nat.mul_assoc, Nat.mul_comm, Nat.mul_left_comm]
  rw [e, Nat.add_mod, scale (mul_finv hy0 hy), ← Nat.add_mod] at h2
  have e2 : r * y + x * r * (Q - 1) = r * (y + x * (Q - 1)) := by
    rw [Nat.mul_add]
    congr 1
    simp only [Nat.mul_assoc, Nat.mul_left_comm]
  rw [e2] at h2
  rcases prime_Q.dvd_mul (Nat.dvd_of_mod_eq_zero h2) with hd | hd
  · have := Nat.le_of_dvd hr0 hd; omega
  · obtain ⟨t, ht⟩ := hd
    rw [Q_val] at *
    omega

/-- The private key that a number stands for. -/
def keyOf (n : Nat) : Nat := 1 + n % (Q - 1)
theorem keyOf_pos (n : Nat) : 0 < keyOf n := by unfold keyOf; omega
theorem keyOf_lt (n : Nat) : keyOf n < Q := by
  unfold keyOf
  have := Nat.mod_lt n (show 0 < Q - 1 by decide)
  omega
end Chart

/- Polynomials over the numbers modulo the prime Q: roots, interpolation. Plain. -/
namespace Chart

instance : NeZero Q := ⟨by decide⟩
abbrev F := Fin Q

/-- The value of a polynomial, the lowest coefficient first. -/
def ev : List F → F → F
  | [], _ => 0
  | c :: l, x => c + x * ev l x

/-- A function that is a polynomial with at most n coefficients. -/
def IsPoly (n : Nat) (f : F → F) : Prop := ∃ c : List F, c.length ≤ n ∧ ∀ x, f x = ev c x

def addL : List F → List F → List F
  | [], m => m
  | l, [] => l
  | a :: l, b :: m => (a + b) :: addL l m
theorem ev_addL : ∀ (l m : List F) (x : F), ev (addL l m) x = ev l x + ev m x
  | [], m, x => by simp [addL, ev]
  | a :: l, [], x => by simp [addL, ev]
  | a :: l, b :: m, x => by simp only [addL, ev, ev_addL l m x]; grind
theorem addL_length : ∀ (l m : List F) (n : Nat), l.length ≤ n → m.length ≤ n → (addL l m).length ≤ n
  | [], m, n, _, h => by simpa [addL] using h
  | a :: l, [], n, h, _ => by simpa [addL] using h
  | a :: l, b :: m, n + 1, h, k => by
    simp only [addL, List.length_cons] at *
    have := addL_length l m n (by omega) (by omega)
    omega
theorem ev_scale (k : F) : ∀ (l : List F) (x : F), ev (l.map (k * ·)) x = k * ev l x
  | [], x => by simp only [List.map_nil, ev]; grind
  | a :: l, x => by simp only [List.map_cons, ev, ev_scale k l x]; grind
theorem IsPoly.add {n : Nat} {f g : F → F} (hf : IsPoly n f) (hg : IsPoly n g) : IsPoly n (fun x => f x + g x) := by
  obtain ⟨c, hc, ec⟩ := hf
  obtain ⟨d, hd, ed⟩ := hg
  exact ⟨addL c d, addL_length c d n hc hd, fun x => by show f x + g x = _; rw [ev_addL, ec, ed]⟩
theorem IsPoly.scale {n : Nat} {f : F → F} (k : F) (hf : IsPoly n f) : IsPoly n (fun x => k * f x) := by
  obtain ⟨c, hc, ec⟩ := hf
  exact ⟨c.map (k * ·), by simpa using hc, fun x => by show k * f x = _; rw [ev_scale, ec]⟩
theorem IsPoly.zero (n : Nat) : IsPoly n (fun _ => 0) := ⟨[], Nat.zero_le _, fun _ => rfl⟩
theorem IsPoly.mono {n m : Nat} {f : F → F} (hf : IsPoly n f) (h : n ≤ m) : IsPoly m f := by
  obtain ⟨c, hc, ec⟩ := hf
  exact ⟨c, by omega, ec⟩
theorem IsPoly.const (k : F) : IsPoly 1 (fun _ => k) := ⟨[k], by simp, fun x => by show k = _; simp only [ev]; grind⟩
theorem IsPoly.linear {n : Nat} {f : F → F} (b : F) (hf : IsPoly n f) : IsPoly (n + 1) (fun x => (x - b) * f x) := by
  obtain ⟨c, hc, ec⟩ := hf
  have h1 : IsPoly (n + 1) (fun x => x * f x) := ⟨0 :: c, by simp; omega, fun x => by show x * f x = _; rw [ec]; simp only [ev]; grind⟩
  have h2 : IsPoly (n + 1) (fun x => (-b) * f x) := (IsPoly.scale (-b) ⟨c, hc, ec⟩).mono (by omega)
  obtain ⟨d, hd, ed⟩ := h1.add h2
  exact ⟨d, hd, fun x => by have := ed x; show (x - b) * f x = _; rw [← this]; grind⟩

theorem mul_zero2 (y : F) : y * 0 = 0 := by grind
theorem sub_zero2 (y : F) : y - y = 0 := by grind

/-- Division by a linear factor. -/
theorem IsPoly.root {n : Nat} {f : F → F} (hf : IsPoly (n + 1) f) (a : F) (h0 : f a = 0) : ∃ g, IsPoly n g ∧ ∀ x, f x = (x - a) * g x := by
  obtain ⟨c, hc, ec⟩ := hf
  have key : ∀ c : List F, ∃ d : List F, d.length ≤ c.length - 1 ∧ ∀ x, ev c x - ev c a = (x - a) * ev d x := by
    intro c
    induction c with
    | nil => exact ⟨[], by simp, fun x => (sub_zero2 0).trans (mul_zero2 (x - a)).symm⟩
    | cons b c ih =>
      obtain ⟨d, hd, ed⟩ := ih
      cases c with
      | nil => exact ⟨[], by simp, fun x => by simp only [ev]; grind⟩
      | cons b' c' =>
        refine ⟨addL (b' :: c') ((d.map (a * ·))), ?_, fun x => ?_⟩
        · refine addL_length _ _ _ (by simp) ?_
          simp at hd ⊢
          omega
        · rw [ev_addL, ev_scale]
          have h := ed x
          show b + x * ev (b' :: c') x - (b + a * ev (b' :: c') a) = _
          generalize ev (b' :: c') x = P at *
          generalize ev (b' :: c') a = R at *
          generalize ev d x = D at *
          grind
  obtain ⟨d, hd, ed⟩ := key c
  refine ⟨ev d, ⟨d, by omega, fun _ => rfl⟩, fun x => ?_⟩
  have := ed x
  rw [← ec, ← ec, h0] at this
  grind

theorem nzd {a b : F} (h : a * b = 0) : a = 0 ∨ b = 0 := by
  have h1 : a.val * b.val % Q = 0 := congrArg Fin.val h
  have h2 : Q ∣ a.val * b.val := Nat.dvd_of_mod_eq_zero h1
  by_cases ha : Q ∣ a.val
  · left
    exact Fin.ext (Nat.eq_zero_of_dvd_of_lt ha a.isLt)
  · right
    have hc : Nat.gcd Q a.val = 1 := prime_Q.coprime ha
    exact Fin.ext (Nat.eq_zero_of_dvd_of_lt (Nat.Coprime.dvd_of_dvd_mul_left hc h2) b.isLt)

/-- A polynomial with as many roots as coefficients is zero. -/
theorem roots : ∀ {n : Nat} {f : F → F}, IsPoly n f → ∀ l : List F, l.Nodup → n ≤ l.length → (∀ a ∈ l, f a = 0) → ∀ x, f x = 0
  | 0, f, hf, _, _, _, _, x => by
    obtain ⟨c, hc, ec⟩ := hf
    have : c = [] := List.eq_nil_of_length_eq_zero (by omega)
    subst this
    exact ec x
  | n + 1, f, hf, [], _, hl, _, x => by simp at hl
  | n + 1, f, hf, a :: l, hd, hl, h0, x => by
    obtain ⟨g, hg, eg⟩ := hf.root a (h0 a (by simp))
    rw [List.nodup_cons] at hd
    have hz := roots hg l hd.2 (by simpa using hl) (fun b hb => by
      have h1 := h0 b (by simp [hb])
      rw [eg b] at h1
      rcases nzd h1 with h2 | h2
      · have : b = a := by grind
        exact absurd (this ▸ hb) hd.1
      · exact h2) x
    rw [eg x, hz]
    exact mul_zero2 _
end Chart

/- Interpolation over the numbers modulo the prime Q. Plain. -/
namespace Chart

/-- The product of f over a list. -/
def prodL (f : F → F) : List F → F
  | [] => 1
  | b :: l => f b * prodL f l
def sumI (g : Nat → F) : Nat → F
  | 0 => 0
  | n + 1 => sumI g n + g n

theorem IsPoly.prodL : ∀ l : List F, IsPoly (l.length + 1) (fun x => Chart.prodL (fun b => x - b) l)
  | [] => IsPoly.const 1
  | b :: l => (IsPoly.prodL l).linear b
theorem IsPoly.sum {m : Nat} {g : Nat → F → F} : ∀ n, (∀ i, i < n → IsPoly m (g i)) → IsPoly m (fun x => sumI (fun i => g i x) n)
  | 0, _ => IsPoly.zero m
  | n + 1, h => (IsPoly.sum n fun i hi => h i (by omega)).add (h n (by omega))

theorem prodL_zero {f : F → F} : ∀ {l : List F} {b : F}, b ∈ l → f b = 0 → prodL f l = 0
  | c :: l, b, hb, h0 => by
    rcases List.mem_cons.1 hb with rfl | hb
    · show f b * _ = 0
      rw [h0]; grind
    · show _ * prodL f l = 0
      rw [prodL_zero hb h0]; exact mul_zero2 _
theorem prodL_ne {f : F → F} : ∀ {l : List F}, (∀ b ∈ l, f b ≠ 0) → prodL f l ≠ 0
  | [], _ => by show (1 : F) ≠ 0; decide
  | c :: l, h => fun h0 => by
    rcases nzd h0 with h1 | h1
    · exact h c (by simp) h1
    · exact prodL_ne (fun b hb => h b (by simp [hb])) h1

/-- What is 1 at the place i and 0 at the other places. -/
def basis (inv : F → F) (l : List F) (i : Nat) (x : F) : F := prodL (fun b => x - b) (l.eraseIdx i) * inv (prodL (fun b => l.getD i 0 - b) (l.eraseIdx i))
def value (inv : F → F) (l : List F) (y : Nat → F) (x : F) : F := sumI (fun i => basis inv l i x * y i) l.length

theorem value_poly (inv : F → F) (l : List F) (y : Nat → F) : IsPoly l.length (value inv l y) := by
  unfold value
  refine IsPoly.sum _ fun i hi => ?_
  have h := IsPoly.prodL (l.eraseIdx i)
  rw [List.length_eraseIdx_of_lt hi, show l.length - 1 + 1 = l.length by omega] at h
  obtain ⟨c, hc, ec⟩ := h.scale (inv (prodL (fun b => l.getD i 0 - b) (l.eraseIdx i)) * y i)
  exact ⟨c, hc, fun x => by rw [← ec]; unfold basis; grind⟩
end Chart

/- Shares: what they are joined to. Interpolation at distinct places. Plain. -/
namespace Chart

/-- The inverse in the field; 0 for 0. -/
def inv (a : F) : F := ⟨finv a.val, finv_lt a.val⟩
theorem mul_inv {a : F} (h : a ≠ 0) : a * inv a = 1 := by
  apply Fin.ext
  have h0 : 0 < a.val := Nat.pos_of_ne_zero (fun h1 => h (Fin.ext h1))
  exact mul_finv h0 a.isLt
theorem inv_mul (a b : F) : inv (a * b) = inv a * inv b := by
  apply Fin.ext
  show (a.val * b.val % Q) ^ (Q - 2) % Q = (a.val ^ (Q - 2) % Q) * (b.val ^ (Q - 2) % Q) % Q
  rw [← Nat.pow_mod, Nat.mul_pow, ← Nat.mul_mod]
theorem inv_one : inv 1 = 1 := by
  have h : (1 : F) ≠ 0 := by decide
  have := mul_inv h
  grind
theorem prodL_inv (f : F → F) : ∀ l : List F, prodL (fun b => inv (f b)) l = inv (prodL f l)
  | [] => inv_one.symm
  | b :: l => by
    show inv (f b) * prodL (fun b => inv (f b)) l = inv (f b * prodL f l)
    rw [inv_mul, prodL_inv f l]
theorem prodL_mul (f g : F → F) : ∀ l : List F, prodL (fun b => f b * g b) l = prodL f l * prodL g l
  | [] => by show (1 : F) = 1 * 1; decide
  | b :: l => by
    show f b * g b * prodL (fun b => f b * g b) l = f b * prodL f l * (g b * prodL g l)
    rw [prodL_mul f g l]; grind

theorem nodup_inj : ∀ {l : List F}, l.Nodup → ∀ {i j : Nat} (hi : i < l.length) (hj : j < l.length), l[i] = l[j] → i = j
  | a :: l, h, 0, 0, _, _, _ => rfl
  | a :: l, h, 0, j + 1, _, hj, e => by
    rw [List.nodup_cons] at h
    simp only [List.length_cons] at hj
    have e' : a = l[j] := e
    exact absurd (e' ▸ List.getElem_mem (show j < l.length by omega)) h.1
  | a :: l, h, i + 1, 0, hi, _, e => by
    rw [List.nodup_cons] at h
    simp only [List.length_cons] at hi
    have e' : l[i] = a := e
    exact absurd (e' ▸ List.getElem_mem (show i < l.length by omega)) h.1
  | a :: l, h, i + 1, j + 1, hi, hj, e => by
    rw [List.nodup_cons] at h
    simp only [List.length_cons] at hi hj
    rw [nodup_inj h.2 (show i < l.length by omega) (show j < l.length by omega) e]
theorem nodup_erase {l : List F} (h : l.Nodup) {i : Nat} (hi : i < l.length) : ∀ b ∈ l.eraseIdx i, b ≠ l.getD i 0 := by
  intro b hb he
  rw [List.getD_eq_getElem?_getD, List.getElem?_eq_getElem hi, Option.getD_some] at he
  obtain ⟨k, hk, hne⟩ : ∃ k, ∃ h : k < l.length, l[k] = b ∧ k ≠ i := by
    rw [List.mem_iff_getElem] at hb
    obtain ⟨k, hk, hb⟩ := hb
    rw [List.getElem_eraseIdx] at hb
    have hlen := List.length_eraseIdx_of_lt hi
    split at hb
    · exact ⟨k, by omega, hb, by omega⟩
    · exact ⟨k + 1, by omega, hb, by omega⟩
  have h2 : l[k] = l[i] := hne.1.trans he
  exact hne.2 (nodup_inj h hk hi h2)

theorem sub_ne {a b : F} (h : b ≠ a) : a - b ≠ 0 := fun h0 => h (by grind)
theorem basis_same {l : List F} (h : l.Nodup) {i : Nat} (hi : i < l.length) : basis inv l i (l.getD i 0) = 1 := by
  unfold basis
  exact mul_inv (prodL_ne fun b hb => sub_ne (nodup_erase h hi b hb))
theorem basis_other {l : List F} {i j : Nat} (hj : j < l.length) (hij : j ≠ i) : basis inv l i (l.getD j 0) = 0 := by
  unfold basis
  have hm : l.getD j 0 ∈ l.eraseIdx i := by
    rw [List.getD_eq_getElem?_getD, List.getElem?_eq_getElem hj, Option.getD_some]
    rw [List.mem_eraseIdx_iff_getElem]
    exact ⟨j, hj, hij, rfl⟩
  rw [prodL_zero hm (sub_zero2 _)]
  grind
theorem basis_ne {l : List F} (h : l.Nodup) {i : Nat} (hi : i < l.length) {x : F} (hx : x ∉ l) : basis inv l i x ≠ 0 := by
  unfold basis
  intro h0
  rcases nzd h0 with h1 | h1
  · refine prodL_ne (fun b hb => sub_ne (fun e => hx ?_)) h1
    rw [← e]
    exact List.mem_of_mem_eraseIdx hb
  · have h2 : prodL (fun b => l.getD i 0 - b) (l.eraseIdx i) ≠ 0 := prodL_ne fun b hb => sub_ne (nodup_erase h hi b hb)
    have := mul_inv h2
    rw [h1] at this
    have h3 : (0 : F) ≠ 1 := by decide
    exact h3 ((mul_zero2 _).symm.trans this)

theorem sumI_zero {g : Nat → F} : ∀ n, (∀ i, i < n → g i = 0) → sumI g n = 0
  | 0, _ => rfl
  | n + 1, h => by
    show sumI g n + g n = 0
    rw [sumI_zero n (fun i hi => h i (by omega)), h n (by omega)]; decide
theorem sumI_one {g : Nat → F} {j : Nat} : ∀ n, j < n → (∀ i, i < n → i ≠ j → g i = 0) → sumI g n = g j
  | n + 1, hj, h => by
    show sumI g n + g n = g j
    by_cases he : j = n
    · subst he
      rw [sumI_zero j (fun i hi => h i (by omega) (by omega))]; grind
    · rw [sumI_one n (by omega) (fun i hi => h i (by omega)), h n (by omega) (by omega)]; grind
theorem sumI_congr {g k : Nat → F} : ∀ n, (∀ i, i < n → g i = k i) → sumI g n = sumI k n
  | 0, _ => rfl
  | n + 1, h => by
    show sumI g n + g n = sumI k n + k n
    rw [sumI_congr n (fun i hi => h i (by omega)), h n (by omega)]
theorem sumI_add (g k : Nat → F) : ∀ n, sumI (fun i => g i + k i) n = sumI g n + sumI k n
  | 0 => by show (0 : F) = 0 + 0; decide
  | n + 1 => by
    show sumI (fun i => g i + k i) n + (g n + k n) = sumI g n + g n + (sumI k n + k n)
    rw [sumI_add g k n]; grind

/-- Shares: places and values. -/
abbrev Sh := List (F × F)
def places (l : Sh) : List F := l.map Prod.fst
/-- The value at x of the polynomial through shares. -/
def val (l : Sh) (x : F) : F := sumI (fun i => basis inv (places l) i x * (l.getD i (0, 0)).2) l.length

theorem places_length (l : Sh) : (places l).length = l.length := List.length_map ..
theorem places_at (l : Sh) {i : Nat} (h : i < (places l).length) : (places l)[i] = (l[i]'(by rw [places_length] at h; exact h)).1 := List.getElem_map ..
theorem places_getD (l : Sh) {i : Nat} (h : i < l.length) : (places l).getD i 0 = l[i].1 := by
  unfold places
  rw [List.getD_eq_getElem?_getD, List.getElem?_map, List.getElem?_eq_getElem h]
  rfl
theorem getD_at (l : Sh) {i : Nat} (h : i < l.length) : l.getD i (0, 0) = l[i] := by
  rw [List.getD_eq_getElem?_getD, List.getElem?_eq_getElem h]
  rfl
theorem val_poly (l : Sh) : IsPoly l.length (val l) := by
  have := value_poly inv (places l) (fun i => (l.getD i (0, 0)).2)
  rw [places_length] at this
  obtain ⟨c, hc, e⟩ := this
  exact ⟨c, hc, fun x => by rw [← e]; unfold val value; rw [places_length]⟩
theorem val_at {l : Sh} (h : (places l).Nodup) {s : F × F} (hs : s ∈ l) : val l s.1 = s.2 := by
  obtain ⟨j, hj, rfl⟩ := List.mem_iff_getElem.1 hs
  unfold val
  have hjp : j < (places l).length := by rw [places_length]; exact hj
  rw [sumI_one l.length hj (fun i hi hij => by
    rw [← places_getD l hj, basis_other hjp (Ne.symm hij)]; grind)]
  rw [← places_getD l hj, basis_same h hjp, getD_at l hj]
  grind
theorem sub_poly {n : Nat} {f g : F → F} (hf : IsPoly n f) (hg : IsPoly n g) : IsPoly n (fun x => f x - g x) := by
  obtain ⟨c, hc, e⟩ := hf.add (hg.scale (-1))
  exact ⟨c, hc, fun x => by have := e x; show f x - g x = _; rw [← this]; grind⟩
/-- Two polynomials that meet at as many places as they have coefficients are the same. -/
theorem poly_eq {n : Nat} {f g : F → F} (hf : IsPoly n f) (hg : IsPoly n g) (l : List F) (hd : l.Nodup) (hn : n ≤ l.length) (h : ∀ a ∈ l, f a = g a) (x : F) : f x = g x := by
  have := roots (sub_poly hf hg) l hd hn (fun a ha => by rw [h a ha]; exact sub_zero2 _) x
  grind
/-- Shares on a polynomial with no more coefficients than there are shares are joined to its values. -/
theorem val_eq {l : Sh} (h : (places l).Nodup) {n : Nat} {f : F → F} (hf : IsPoly n f) (hn : n ≤ l.length) (hl : ∀ s ∈ l, f s.1 = s.2) (x : F) : val l x = f x := by
  refine poly_eq (val_poly l) (hf.mono hn) (places l) h (by rw [places_length]; exact Nat.le_refl _) (fun a ha => ?_) x
  obtain ⟨s, hs, rfl⟩ := List.mem_map.1 ha
  rw [val_at h hs, hl s hs]

/-- Do all shares behind the first ones lie on the polynomial through these? -/
def fits (l : Sh) (need : Nat) : Bool := (l.drop need).all fun s => val (l.take need) s.1 == s.2
theorem nodup_take {l : Sh} (h : (places l).Nodup) (n : Nat) : (places (l.take n)).Nodup := by
  unfold places at *
  rw [List.map_take]
  exact h.sublist (List.take_sublist _ _)
theorem fits_true {l : Sh} {need : Nat} : fits l need = true ↔ ∀ s ∈ l.drop need, val (l.take need) s.1 = s.2 := by
  unfold fits
  simp
theorem fits_all {l : Sh} (h : (places l).Nodup) {need : Nat} (hf : fits l need = true) : ∀ s ∈ l, val (l.take need) s.1 = s.2 := by
  intro s hs
  rw [← List.take_append_drop need l, List.mem_append] at hs
  rcases hs with hs | hs
  · exact val_at (nodup_take h need) hs
  · exact fits_true.1 hf s hs
theorem fits_poly {l : Sh} (h : (places l).Nodup) {need : Nat} {f : F → F} (hf : IsPoly need f) (hl : ∀ s ∈ l, f s.1 = s.2) : fits l need = true := by
  rw [fits_true]
  intro s hs
  have h1 : need ≤ (l.take need).length := by
    have : 0 < (l.drop need).length := List.length_pos_of_mem hs
    simp at this ⊢
    omega
  rw [val_eq (nodup_take h need) hf h1 (fun t ht => hl t (List.mem_of_mem_take ht)) s.1]
  exact hl s (List.mem_of_mem_drop hs)
/-- A changed share is noticed. -/
theorem fits_changed {l : Sh} (h : (places l).Nodup) {need : Nat} {f : F → F} (hf : IsPoly need f) (hl : ∀ s ∈ l, f s.1 = s.2) {i : Nat} (hi : i < l.length) (hn : need < l.length) {y : F} (hx : fits (l.set i (l[i].1, y)) need = true) : y = l[i].2 := by
  obtain ⟨m, hm⟩ : ∃ m, m = l.set i (l[i].1, y) := ⟨_, rfl⟩
  have hpl : places m = places l := by
    rw [hm]; unfold places
    rw [List.map_set]
    apply List.ext_getElem
    · simp
    · intro k h1 h2
      rw [List.getElem_set]
      split
      · subst_vars; simp
      · rfl
  rw [← hm] at hx
  have h' : (places m).Nodup := by rw [hpl]; exact h
  have hall := fits_all h' hx
  have hp : IsPoly need (val (m.take need)) := (val_poly _).mono (by simp; omega)
  have hall2 : ∀ k (hk : k < l.length), k ≠ i → val (m.take need) l[k].1 = l[k].2 := by
    intro k hk hki
    have hm' : l[k] ∈ m := by
      rw [hm, List.mem_iff_getElem]
      exact ⟨k, by simpa using hk, by rw [List.getElem_set_ne (Ne.symm hki)]⟩
    exact hall _ hm'
  have hself : val (m.take need) l[i].1 = y := by
    have hm' : (l[i].1, y) ∈ m := by
      rw [hm, List.mem_iff_getElem]
      exact ⟨i, by simpa using hi, by rw [List.getElem_set_self]⟩
    exact hall _ hm'
  have he : val (m.take need) l[i].1 = f l[i].1 := by
    refine poly_eq hp hf ((places l).eraseIdx i) (h.sublist (List.eraseIdx_sublist _ _)) ?_ (fun a ha => ?_) _
    · rw [List.length_eraseIdx_of_lt (by rw [places_length]; exact hi), places_length]; omega
    · obtain ⟨k, hk, hki, rfl⟩ := List.mem_eraseIdx_iff_getElem.1 ha
      have hk' : k < l.length := by rw [places_length] at hk; exact hk
      have e1 : (places l)[k] = l[k].1 := places_at l hk
      rw [e1, hall2 k hk' hki, hl l[k] (List.getElem_mem hk')]
  rw [← hself, he, hl l[i] (List.getElem_mem hi)]

/-- Sums of shares at the same places. -/
def sumSh (a b : Sh) : Sh := List.zipWith (fun s t => (s.1, s.2 + t.2)) a b
theorem sumSh_length {a b : Sh} (h : places a = places b) : (sumSh a b).length = a.length := by
  have := congrArg List.length h
  rw [places_length, places_length] at this
  unfold sumSh
  rw [List.length_zipWith]
  omega
theorem sumSh_places {a b : Sh} (h : places a = places b) : places (sumSh a b) = places a := by
  have hl := congrArg List.length h
  rw [places_length, places_length] at hl
  apply List.ext_getElem
  · rw [places_length, places_length, sumSh_length h]
  · intro k h1 h2
    rw [places_at, places_at]
    unfold sumSh
    rw [List.getElem_zipWith]
theorem val_sumSh {a b : Sh} (h : places a = places b) (x : F) : val (sumSh a b) x = val a x + val b x := by
  have hl := congrArg List.length h
  rw [places_length, places_length] at hl
  unfold val
  rw [sumSh_length h, sumSh_places h, ← h, ← hl, ← sumI_add]
  refine sumI_congr _ fun i hi => ?_
  rw [getD_at a hi, getD_at b (by omega), getD_at _ (by rw [sumSh_length h]; exact hi)]
  unfold sumSh
  simp only [List.getElem_zipWith]
  grind
theorem sumSh_take {a b : Sh} (n : Nat) : (sumSh a b).take n = sumSh (a.take n) (b.take n) := by
  unfold sumSh
  rw [List.take_zipWith]
theorem sumSh_drop {a b : Sh} (n : Nat) : (sumSh a b).drop n = sumSh (a.drop n) (b.drop n) := by
  unfold sumSh
  rw [List.drop_zipWith]
theorem places_take (a : Sh) (n : Nat) : places (a.take n) = (places a).take n := List.map_take
theorem places_drop (a : Sh) (n : Nat) : places (a.drop n) = (places a).drop n := List.map_drop
theorem fits_sumSh {a b : Sh} (h : places a = places b) {need : Nat} (ha : fits a need = true) (hb : fits b need = true) : fits (sumSh a b) need = true := by
  have hl := congrArg List.length h
  rw [places_length, places_length] at hl
  rw [fits_true] at *
  rw [sumSh_take, sumSh_drop]
  intro s hs
  rw [val_sumSh (by rw [places_take, places_take, h])]
  obtain ⟨k, hk, rfl⟩ := List.mem_iff_getElem.1 hs
  have hpd : places (a.drop need) = places (b.drop need) := by rw [places_drop, places_drop, h]
  rw [sumSh_length hpd] at hk
  have hk2 : k < (b.drop need).length := by rw [List.length_drop] at *; omega
  have e : (sumSh (a.drop need) (b.drop need))[k]'(by rw [sumSh_length hpd]; exact hk) = (((a.drop need)[k]).1, ((a.drop need)[k]).2 + ((b.drop need)[k]).2) := by
    unfold sumSh
    simp only [List.getElem_zipWith]
  have e2 : ((a.drop need)[k]).1 = ((b.drop need)[k]).1 := by
    have := congrArg (fun l : List F => l[k]?) hpd
    simp only [places, List.getElem?_map, List.getElem?_eq_getElem hk, List.getElem?_eq_getElem hk2, Option.map_some, Option.some.injEq] at this
    exact this
  rw [e]
  show val _ ((a.drop need)[k]).1 + val _ ((a.drop need)[k]).1 = _
  rw [ha _ (List.getElem_mem hk), e2, hb _ (List.getElem_mem hk2)]

/-- One share more: the value is linear in its second part. -/
theorem val_snoc (l : Sh) (a y x : F) : val (l ++ [(a, y)]) x = val (l ++ [(a, 0)]) x + y * basis inv (places l ++ [a]) l.length x := by
  have hp : ∀ z, places (l ++ [(a, z)]) = places l ++ [a] := fun z => by unfold places; simp
  have hlen : ∀ z : F, (l ++ [(a, z)]).length = l.length + 1 := fun z => by simp
  unfold val
  rw [hp, hp, hlen, hlen]
  show sumI _ l.length + _ = sumI _ l.length + _ + _
  have e : ∀ z : F, sumI (fun i => basis inv (places l ++ [a]) i x * ((l ++ [(a, z)]).getD i (0, 0)).2) l.length = sumI (fun i => basis inv (places l ++ [a]) i x * (l.getD i (0, 0)).2) l.length := fun z => by
    refine sumI_congr _ fun i hi => ?_
    rw [getD_at _ (show i < (l ++ [(a, z)]).length by rw [hlen]; omega), getD_at l hi, List.getElem_append_left hi]
  have e2 : ∀ z : F, ((l ++ [(a, z)]).getD l.length (0, 0)).2 = z := fun z => by
    rw [getD_at _ (show l.length < (l ++ [(a, z)]).length by rw [hlen]; omega)]
    simp
  rw [e, e]
  dsimp only
  rw [e2, e2]
  grind
end Chart

/- Shares as the program has them, and when they are valid. Plain. -/
namespace Chart

/-- A number as an element of the field. -/
def fx (n : Nat) : F := Fin.ofNat Q n
theorem fx_val {n : Nat} (h : n < Q) : (fx n).val = n := Nat.mod_eq_of_lt h
theorem fx_self (a : F) : fx a.val = a := Fin.ext (fx_val a.isLt)

abbrev Rs := List (Int × Int)
def rawOf (s : F × F) : Int × Int := ((s.1.val : Int), (s.2.val : Int))
def raw (l : Sh) : Rs := l.map rawOf
theorem raw_length (l : Sh) : (raw l).length = l.length := List.length_map ..
theorem raw_append (l m : Sh) : raw (l ++ m) = raw l ++ raw m := List.map_append ..
theorem raw_take (l : Sh) (n : Nat) : (raw l).take n = raw (l.take n) := List.map_take.symm
theorem raw_drop (l : Sh) (n : Nat) : (raw l).drop n = raw (l.drop n) := List.map_drop.symm

/-- May this share come after the place last? -/
def okAt (last : Int) (s : Int × Int) : Bool := decide (last < s.1) && decide (s.1 ≤ 64) && (decide (0 ≤ s.2) && decide (s.2 < (Q : Int)))
def okFrom : Int → Rs → Bool
  | _, [] => true
  | last, s :: l => okAt last s && okFrom s.1 l
/-- Valid shares. -/
def okS (l : Rs) : Bool := decide (1 ≤ l.length) && decide (l.length ≤ 64) && okFrom 0 l

theorem okAt_true {last : Int} {s : Int × Int} : okAt last s = true ↔ last < s.1 ∧ s.1 ≤ 64 ∧ 0 ≤ s.2 ∧ s.2 < (Q : Int) := by
  unfold okAt
  simp only [Bool.and_eq_true, decide_eq_true_eq, and_assoc]
theorem okFrom_cons {last : Int} {s : Int × Int} {l : Rs} : okFrom last (s :: l) = true ↔ okAt last s = true ∧ okFrom s.1 l = true := by
  show (okAt last s && okFrom s.1 l) = true ↔ _
  rw [Bool.and_eq_true]
theorem okS_true {l : Rs} : okS l = true ↔ 1 ≤ l.length ∧ l.length ≤ 64 ∧ okFrom 0 l = true := by
  unfold okS
  simp only [Bool.and_eq_true, decide_eq_true_eq, and_assoc]

theorem okFrom_raw : ∀ {last : Int} {r : Rs}, 0 ≤ last → okFrom last r = true → ∃ l : Sh, r = raw l ∧ (places l).Nodup ∧ ∀ s ∈ l, last < (s.1.val : Int) ∧ s.1.val ≤ 64
  | _, [], _, _ => ⟨[], rfl, List.nodup_nil, fun s hs => by simp at hs⟩
  | last, s :: r, h0, h => by
    rw [okFrom_cons, okAt_true] at h
    obtain ⟨⟨h1, h2, h3, h4⟩, h5⟩ := h
    obtain ⟨l, hr, hn, hl⟩ := okFrom_raw (by omega) h5
    have hQ : Q = 2305843009213688669 := rfl
    have e1 : s.1.toNat < Q := by omega
    have e2 : s.2.toNat < Q := by omega
    refine ⟨(fx s.1.toNat, fx s.2.toNat) :: l, ?_, ?_, ?_⟩
    · rw [hr]
      show s :: raw l = rawOf _ :: raw l
      unfold rawOf
      rw [fx_val e1, fx_val e2, Int.toNat_of_nonneg (by omega), Int.toNat_of_nonneg h3]
    · show (fx s.1.toNat :: places l).Nodup
      rw [List.nodup_cons]
      refine ⟨fun hm => ?_, hn⟩
      obtain ⟨t, ht, he⟩ := List.mem_map.1 hm
      have := (hl t ht).1
      have he' := congrArg Fin.val he
      rw [fx_val e1] at he'
      omega
    · intro t ht
      rcases List.mem_cons.1 ht with rfl | ht
      · show last < ((fx s.1.toNat).val : Int) ∧ (fx s.1.toNat).val ≤ 64
        rw [fx_val e1]
        omega
      · have := hl t ht
        omega
/-- What valid shares are. -/
theorem okS_raw {r : Rs} (h : okS r = true) : ∃ l : Sh, r = raw l ∧ (places l).Nodup ∧ (∀ s ∈ l, 1 ≤ s.1.val ∧ s.1.val ≤ 64) ∧ 1 ≤ l.length ∧ l.length ≤ 64 := by
  rw [okS_true] at h
  obtain ⟨l, hr, hn, hl⟩ := okFrom_raw (Int.le_refl 0) h.2.2
  have e := congrArg List.length hr
  rw [raw_length] at e
  exact ⟨l, hr, hn, fun s hs => by have := hl s hs; omega, by omega, by omega⟩
theorem rawOf_inj {s t : F × F} (h : rawOf s = rawOf t) : s = t := by
  unfold rawOf at h
  have h1 := congrArg Prod.fst h
  have h2 := congrArg Prod.snd h
  simp only at h1 h2
  exact Prod.ext (Fin.ext (by omega)) (Fin.ext (by omega))
theorem raw_inj : ∀ {l m : Sh}, raw l = raw m → l = m
  | [], [], _ => rfl
  | s :: l, t :: m, h => by
    have h' : rawOf s :: raw l = rawOf t :: raw m := h
    rw [List.cons.injEq] at h'
    rw [rawOf_inj h'.1, raw_inj h'.2]
  | [], _ :: _, h => by cases h
  | _ :: _, [], h => by cases h
/-- The facts on shares that are known to be valid. -/
structure Good (l : Sh) : Prop where
  nodup : (places l).Nodup
  place : ∀ s ∈ l, 1 ≤ s.1.val ∧ s.1.val ≤ 64
  pos : 1 ≤ l.length
  few : l.length ≤ 64
theorem good {l : Sh} (h : okS (raw l) = true) : Good l := by
  obtain ⟨m, e, h1, h2, h3, h4⟩ := okS_raw h
  have := raw_inj e
  subst this
  exact ⟨h1, h2, h3, h4⟩
theorem okFrom_mono {a b : Int} (h : b ≤ a) : ∀ {l : Rs}, okFrom a l = true → okFrom b l = true
  | [], _ => rfl
  | s :: l, h1 => by
    rw [okFrom_cons, okAt_true] at *
    exact ⟨⟨by omega, h1.1.2⟩, h1.2⟩
theorem okFrom_sub {l m : Rs} (h : List.Sublist m l) : ∀ {a : Int}, okFrom a l = true → okFrom a m = true := by
  induction h with
  | slnil => intro a h; exact h
  | cons s _ ih =>
    intro a h
    rw [okFrom_cons, okAt_true] at h
    exact okFrom_mono (Int.le_of_lt h.1.1) (ih h.2)
  | cons_cons s _ ih =>
    intro a h
    rw [okFrom_cons] at *
    exact ⟨h.1, ih h.2⟩
theorem okS_sub {l m : Rs} (h : okS l = true) (hs : List.Sublist m l) (h1 : 1 ≤ m.length) : okS m = true := by
  rw [okS_true] at *
  have := hs.length_le
  exact ⟨h1, by omega, okFrom_sub hs h.2.2⟩
theorem okFrom_snoc {a : Int} : ∀ {l : Rs} {s : Int × Int}, okFrom a (l ++ [s]) = true → okFrom a l = true
  | [], _, _ => rfl
  | t :: l, s, h => by
    rw [List.cons_append, okFrom_cons] at h
    rw [okFrom_cons]
    exact ⟨h.1, okFrom_snoc h.2⟩
theorem okFrom_last {a : Int} : ∀ {l : Rs} {p y z : Int}, 0 ≤ z → z < (Q : Int) → okFrom a (l ++ [(p, y)]) = true → okFrom a (l ++ [(p, z)]) = true
  | [], p, y, z, h0, h1, h => by
    rw [List.nil_append, okFrom_cons, okAt_true] at *
    exact ⟨⟨h.1.1, h.1.2.1, h0, h1⟩, rfl⟩
  | t :: l, p, y, z, h0, h1, h => by
    rw [List.cons_append, okFrom_cons] at *
    exact ⟨h.1, okFrom_last h0 h1 h.2⟩
theorem okS_last {l : Rs} {p y z : Int} (h0 : 0 ≤ z) (h1 : z < (Q : Int)) (h : okS (l ++ [(p, y)]) = true) : okS (l ++ [(p, z)]) = true := by
  rw [okS_true] at *
  simp only [List.length_append, List.length_cons, List.length_nil] at *
  exact ⟨h.1, h.2.1, okFrom_last h0 h1 h.2.2⟩
theorem okFrom_set {a : Int} : ∀ {l : Rs} {i : Nat} {z : Int} (hi : i < l.length), 0 ≤ z → z < (Q : Int) → okFrom a l = true → okFrom a (l.set i (l[i].1, z)) = true
  | s :: l, 0, z, _, h0, h1, h => by
    rw [List.set_cons_zero, okFrom_cons, okAt_true] at *
    exact ⟨⟨h.1.1, h.1.2.1, h0, h1⟩, h.2⟩
  | s :: l, i + 1, z, hi, h0, h1, h => by
    rw [List.set_cons_succ, okFrom_cons] at *
    exact ⟨h.1, okFrom_set (by simpa using hi) h0 h1 h.2⟩

/-- The shares that a polynomial gives. -/
def splitS (c : List F) (many : Nat) : Sh := (List.range' 1 many).map fun x => (fx x, ev c (fx x))
theorem splitS_length (c : List F) (many : Nat) : (splitS c many).length = many := by simp [splitS]
theorem splitS_succ (c : List F) (n : Nat) : splitS c (n + 1) = splitS c n ++ [(fx (n + 1), ev c (fx (n + 1)))] := by
  unfold splitS
  rw [List.range'_concat, List.map_append, Nat.one_mul, Nat.add_comm 1 n]
  rfl
theorem splitS_at (c : List F) (many : Nat) {i : Nat} (h : i < (splitS c many).length) : (splitS c many)[i] = (fx (i + 1), ev c (fx (i + 1))) := by
  have e : (splitS c many)[i] = (fun x => (fx x, ev c (fx x))) ((List.range' 1 many)[i]'(by rw [splitS_length] at h; simpa using h)) := List.getElem_map ..
  rw [e, List.getElem_range', Nat.one_mul, Nat.add_comm 1 i]
theorem splitS_mem {c : List F} {many : Nat} {s : F × F} (h : s ∈ splitS c many) : ev c s.1 = s.2 := by
  unfold splitS at h
  obtain ⟨x, _, rfl⟩ := List.mem_map.1 h
  rfl
theorem okFrom_split (c : List F) : ∀ n k : Nat, k + n ≤ 64 → okFrom (k : Int) (raw ((List.range' (k + 1) n).map fun x => (fx x, ev c (fx x)))) = true
  | 0, k, _ => rfl
  | n + 1, k, h => by
    have hQ : Q = 2305843009213688669 := rfl
    rw [List.range'_succ]
    show okFrom (k : Int) (rawOf (fx (k + 1), ev c (fx (k + 1))) :: raw _) = true
    have e : (fx (k + 1)).val = k + 1 := fx_val (by omega)
    rw [okFrom_cons, okAt_true]
    have ih := okFrom_split c n (k + 1) (by omega)
    unfold rawOf
    dsimp only
    rw [e]
    exact ⟨⟨by omega, by omega, by omega, by have := (ev c (fx (k + 1))).isLt; omega⟩, ih⟩
theorem okS_split (c : List F) {many : Nat} (h1 : 1 ≤ many) (h2 : many ≤ 64) : okS (raw (splitS c many)) = true := by
  rw [okS_true, raw_length, splitS_length]
  exact ⟨h1, h2, okFrom_split c many 0 (by omega)⟩
theorem ev_poly (c : List F) : IsPoly c.length (ev c) := ⟨c, Nat.le_refl _, fun _ => rfl⟩
theorem ev_zero (a : F) (c : List F) : ev (a :: c) 0 = a := by show a + 0 * ev c 0 = a; grind
/-- Enough of the shares of a polynomial are joined to its first coefficient. -/
theorem split_join {a : F} {c : List F} {m : Sh} (hm : Good m) (hs : ∀ s ∈ m, ev (a :: c) s.1 = s.2) (hn : (a :: c).length ≤ m.length) : val m 0 = a := by
  rw [val_eq hm.nodup (ev_poly (a :: c)) hn hs 0, ev_zero]
theorem split_fits {c : List F} {m : Sh} (hm : Good m) (hs : ∀ s ∈ m, ev c s.1 = s.2) {need : Nat} (hn : c.length ≤ need) : fits m need = true :=
  fits_poly hm.nodup ((ev_poly c).mono hn) hs
theorem zero_not_place {l : Sh} (h : Good l) : (0 : F) ∉ places l := by
  intro hm
  obtain ⟨s, hs, he⟩ := List.mem_map.1 hm
  have := (h.place s hs).1
  rw [he] at this
  simp at this
/-- How the joined value hangs on the last share. -/
theorem val_last {l : Sh} {p : F} (h : Good (l ++ [(p, 0)])) : ∃ b : F, b ≠ 0 ∧ ∀ y, val (l ++ [(p, y)]) 0 = val (l ++ [(p, 0)]) 0 + y * b := by
  refine ⟨_, ?_, fun y => val_snoc l p y 0⟩
  have hp : places (l ++ [(p, 0)]) = places l ++ [p] := by unfold places; simp
  have h1 := h.nodup
  have h2 := zero_not_place h
  rw [hp] at h1 h2
  exact basis_ne h1 (by simp [places_length]) h2
end Chart

/- The loops of the joined value, step by step. Plain. -/
namespace Chart

theorem prodL_snoc (f : F → F) : ∀ (l : List F) (b : F), prodL f (l ++ [b]) = prodL f l * f b
  | [], b => by show f b * 1 = 1 * f b; grind
  | c :: l, b => by
    show f c * prodL f (l ++ [b]) = f c * prodL f l * f b
    rw [prodL_snoc f l b]; grind
/-- The product over the first k places but the i-th. -/
def upTo (f : F → F) (l : List F) (i k : Nat) : F := prodL f ((l.take k).eraseIdx i)
theorem upTo_zero (f : F → F) (l : List F) (i : Nat) : upTo f l i 0 = 1 := by unfold upTo; simp [prodL]
theorem upTo_skip (f : F → F) (l : List F) (i : Nat) : upTo f l i (i + 1) = upTo f l i i := by
  unfold upTo
  congr 1
  apply List.ext_getElem?
  intro j
  simp only [List.getElem?_eraseIdx, List.getElem?_take]
  by_cases h1 : j < i
  · rw [if_pos h1, if_pos (by omega), if_pos h1, if_pos h1]
  · rw [if_neg h1, if_neg (by omega), if_neg h1, if_neg (by omega)]
theorem upTo_step (f : F → F) (l : List F) {i k : Nat} (hk : k < l.length) (h : k ≠ i) : upTo f l i (k + 1) = upTo f l i k * f l[k] := by
  unfold upTo
  rw [← prodL_snoc]
  congr 1
  rw [List.take_succ_eq_append_getElem hk]
  have hl : (l.take k).length = k := by rw [List.length_take]; omega
  by_cases hi : i < k
  · rw [List.eraseIdx_append_of_lt_length (by omega)]
  · rw [List.eraseIdx_append_of_length_le (by omega), hl]
    have e : ([l[k]]).eraseIdx (i - k) = [l[k]] := List.eraseIdx_of_length_le (by simp; omega)
    rw [e, List.eraseIdx_of_length_le (by omega)]
theorem upTo_all (f : F → F) (l : List F) (i : Nat) : upTo f l i l.length = prodL f (l.eraseIdx i) := by
  unfold upTo
  rw [List.take_length]
theorem basis_upTo (l : List F) (i : Nat) (x : F) (h : i < l.length) : basis inv l i x = upTo (fun b => x - b) l i l.length * inv (upTo (fun b => l[i] - b) l i l.length) := by
  unfold basis
  rw [upTo_all, upTo_all]
  rw [List.getD_eq_getElem?_getD, List.getElem?_eq_getElem h, Option.getD_some]
/-- As the reference has it. -/
theorem basis_ref (l : List F) (i : Nat) (x y : F) (h : i < l.length) : y * upTo (fun b => (x - b) * inv (l[i] - b)) l i l.length = basis inv l i x * y := by
  rw [basis_upTo l i x h, upTo_all, upTo_all, upTo_all, prodL_mul (fun b => x - b) (fun b => inv (l[i] - b)), prodL_inv (fun b => l[i] - b)]
  grind
/-- The first terms of the joined value. -/
def valTo (l : Sh) (x : F) (k : Nat) : F := sumI (fun i => basis inv (places l) i x * (l.getD i (0, 0)).2) k
theorem valTo_zero (l : Sh) (x : F) : valTo l x 0 = 0 := rfl
theorem valTo_succ (l : Sh) (x : F) {k : Nat} (h : k < l.length) : valTo l x (k + 1) = valTo l x k + basis inv (places l) k x * l[k].2 := by
  show valTo l x k + _ = _
  dsimp only
  rw [getD_at l h]
theorem valTo_all (l : Sh) (x : F) : valTo l x l.length = val l x := rfl

/-- Evaluation from the highest coefficient down. -/
theorem ev_drop (c : List F) (x : F) {k : Nat} (h : k < c.length) : ev (c.drop k) x = c[k] + x * ev (c.drop (k + 1)) x := by
  rw [List.drop_eq_getElem_cons h]
  rfl
/-- Evaluation from the lowest coefficient up. -/
def pw (x : F) : Nat → F
  | 0 => 1
  | n + 1 => pw x n * x
theorem ev_snoc (x : F) : ∀ (c : List F) (a : F), ev (c ++ [a]) x = ev c x + a * pw x c.length
  | [], a => by show a + x * 0 = 0 + a * 1; grind
  | b :: c, a => by
    show b + x * ev (c ++ [a]) x = b + x * ev c x + a * (pw x c.length * x)
    rw [ev_snoc x c a]; grind
theorem ev_take (c : List F) (x : F) {k : Nat} (h : k < c.length) : ev (c.take (k + 1)) x = ev (c.take k) x + c[k] * pw x k := by
  rw [List.take_succ_eq_append_getElem h, ev_snoc, List.length_take, Nat.min_eq_left (Nat.le_of_lt h)]
end Chart
