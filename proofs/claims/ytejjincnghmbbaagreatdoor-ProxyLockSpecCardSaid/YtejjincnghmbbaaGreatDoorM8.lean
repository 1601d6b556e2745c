/- Number theory in plain Lean: Euclid's lemma, Fermat's little theorem, Pocklington's test, powers modulo m by repeated squaring. No program is in sight. -/
import Derived.Test.YtejjincnghmbbaaGreatDoorM7
namespace Chart

/-- A prime number. -/
def Prime (p : Nat) : Prop := 2 ≤ p ∧ ∀ d, d ∣ p → d = 1 ∨ d = p

theorem Prime.coprime {p a : Nat} (hp : Prime p) (h : ¬ p ∣ a) : Nat.gcd p a = 1 := by
  rcases hp.2 _ (Nat.gcd_dvd_left p a) with e | e
  · exact e
  · exact absurd (e ▸ Nat.gcd_dvd_right p a) h

theorem dvd_of_gcd_mul {p a b : Nat} (hg : Nat.gcd p a = 1) (h : p ∣ a * b) : p ∣ b := by
  have h1 : p ∣ Nat.gcd (p * b) (a * b) := Nat.dvd_gcd (Nat.dvd_mul_right p b) h
  rwa [Nat.gcd_mul_right, hg, Nat.one_mul] at h1

theorem Prime.dvd_mul {p a b : Nat} (hp : Prime p) (h : p ∣ a * b) : p ∣ a ∨ p ∣ b := by
  by_cases ha : p ∣ a
  · exact .inl ha
  · exact .inr (dvd_of_gcd_mul (hp.coprime ha) h)

theorem Prime.dvd_pow {p a n : Nat} (hp : Prime p) (h : p ∣ a ^ n) : p ∣ a := by
  induction n with
  | zero =>
    have h1 := Nat.le_of_dvd (by simp) h
    have := hp.1
    simp at h1
    omega
  | succ n ih =>
    rw [Nat.pow_succ] at h
    rcases hp.dvd_mul h with h | h
    · exact ih h
    · exact h

def choose : Nat → Nat → Nat
  | _, 0 => 1
  | 0, _ + 1 => 0
  | n + 1, k + 1 => choose n k + choose n (k + 1)

theorem choose_zero (n : Nat) : choose n 0 = 1 := by cases n <;> rfl
theorem choose_gt (n : Nat) : ∀ k, n < k → choose n k = 0 := by
  induction n with
  | zero => intro k hk; cases k with | zero => omega | succ k => rfl
  | succ n ih =>
    intro k hk
    cases k with
    | zero => omega
    | succ k => simp only [choose]; rw [ih k (by omega), ih (k + 1) (by omega)]
theorem choose_self (n : Nat) : choose n n = 1 := by
  induction n with
  | zero => rfl
  | succ n ih => simp only [choose]; rw [ih, choose_gt n (n + 1) (by omega)]
theorem choose_absorb (n : Nat) : ∀ k, (k + 1) * choose (n + 1) (k + 1) = (n + 1) * choose n k := by
  induction n with
  | zero =>
    intro k
    cases k with
    | zero => rfl
    | succ k => simp [choose]
  | succ n ih =>
    intro k
    cases k with
    | zero =>
      have h := ih 0
      simp only [choose_zero, choose] at h ⊢
      omega
    | succ k =>
      have h1 := ih k
      have h2 := ih (k + 1)
      have e1 : choose (n + 1 + 1) (k + 1 + 1) = choose (n + 1) (k + 1) + choose (n + 1) (k + 1 + 1) := rfl
      have e2 : choose (n + 1) (k + 1) = choose n k + choose n (k + 1) := rfl
      rw [e1, Nat.mul_add, h2]
      have e3 : (k + 1 + 1) * choose (n + 1) (k + 1) = (n + 1) * choose n k + choose (n + 1) (k + 1) := by
        rw [← h1, Nat.succ_mul]
      rw [e3, e2]
      generalize choose n k = x
      generalize choose n (k + 1) = y
      simp only [Nat.add_mul, Nat.mul_add, Nat.one_mul]
      omega

/-- The sum of choose n k * a ^ k over k < m. -/
def bsum (n a : Nat) : Nat → Nat
  | 0 => 0
  | m + 1 => bsum n a m + choose n m * a ^ m

theorem bsum_step (n a : Nat) : ∀ m, bsum (n + 1) a (m + 1) = bsum n a (m + 1) + a * bsum n a m := by
  intro m
  induction m with
  | zero => simp [bsum, choose_zero]
  | succ m ih =>
    have e : bsum (n + 1) a (m + 1 + 1) = bsum (n + 1) a (m + 1) + choose (n + 1) (m + 1) * a ^ (m + 1) := rfl
    rw [e, ih]
    have e1 : bsum n a (m + 1 + 1) = bsum n a (m + 1) + choose n (m + 1) * a ^ (m + 1) := rfl
    have e2 : bsum n a (m + 1) = bsum n a m + choose n m * a ^ m := rfl
    have e3 : choose (n + 1) (m + 1) = choose n m + choose n (m + 1) := rfl
    rw [e1, e3, Nat.add_mul, e2, Nat.mul_add a]
    have e4 : a * (choose n m * a ^ m) = choose n m * a ^ (m + 1) := by
      rw [Nat.pow_succ]; ac_rfl
    rw [e4]
    omega

theorem bsum_pow (n a : Nat) : bsum n a (n + 1) = (a + 1) ^ n := by
  induction n with
  | zero => simp [bsum, choose_zero]
  | succ n ih =>
    rw [bsum_step, ih]
    have : bsum n a (n + 1 + 1) = bsum n a (n + 1) := by
      show bsum n a (n + 1) + choose n (n + 1) * a ^ (n + 1) = _
      rw [choose_gt n (n + 1) (by omega), Nat.zero_mul, Nat.add_zero]
    rw [this, ih, Nat.pow_succ, Nat.mul_add, Nat.mul_one, Nat.mul_comm a, Nat.add_comm]

theorem Prime.dvd_choose {p k : Nat} (hp : Prime p) (h0 : 0 < k) (h1 : k < p) : p ∣ choose p k := by
  obtain ⟨n, rfl⟩ : ∃ n, p = n + 1 := ⟨p - 1, by omega⟩
  obtain ⟨k, rfl⟩ : ∃ j, k = j + 1 := ⟨k - 1, by omega⟩
  have h := choose_absorb n k
  have hd : n + 1 ∣ (k + 1) * choose (n + 1) (k + 1) := ⟨_, h⟩
  rcases hp.dvd_mul hd with h | h
  · have := Nat.le_of_dvd (by omega) h
    omega
  · exact h

theorem bsum_mod {p : Nat} (hp : Prime p) (a : Nat) : ∀ m, 0 < m → m ≤ p → bsum p a m % p = 1 % p := by
  intro m h0 h1
  induction m with
  | zero => omega
  | succ m ih =>
    by_cases hm : m = 0
    · subst hm; simp [bsum, choose_zero]
    · have hd : choose p m * a ^ m % p = 0 := Nat.mod_eq_zero_of_dvd (Nat.dvd_trans (hp.dvd_choose (by omega) (by omega)) (Nat.dvd_mul_right _ _))
      show (bsum p a m + choose p m * a ^ m) % p = _
      rw [Nat.add_mod, hd, ih (by omega) (by omega)]
      simp

theorem Prime.pow_self {p : Nat} (hp : Prime p) (a : Nat) : a ^ p % p = a % p := by
  induction a with
  | zero => rw [Nat.zero_pow (by have := hp.1; omega)]
  | succ a ih =>
    rw [← bsum_pow]
    show (bsum p a p + choose p p * a ^ p) % p = _
    rw [choose_self, Nat.one_mul, Nat.add_mod, bsum_mod hp a p (by have := hp.1; omega) (Nat.le_refl _), ih]
    rw [← Nat.add_mod, Nat.add_comm]

/-- Fermat's little theorem. -/
theorem Prime.fermat {p a : Nat} (hp : Prime p) (h : ¬ p ∣ a) : a ^ (p - 1) % p = 1 := by
  have h2 := hp.1
  have hs := hp.pow_self a
  obtain ⟨n, rfl⟩ : ∃ n, p = n + 1 := ⟨p - 1, by omega⟩
  simp only [Nat.add_sub_cancel]
  have h0 : 0 < a := by
    rcases Nat.eq_zero_or_pos a with e | e
    · exact absurd (e ▸ Nat.dvd_zero _) h
    · exact e
  have hle : 1 ≤ a ^ n := Nat.pos_of_ne_zero (by simp; omega)
  have hd : n + 1 ∣ a * (a ^ n - 1) := by
    have e : a * (a ^ n - 1) = a ^ (n + 1) - a := by rw [Nat.mul_sub, Nat.mul_one, Nat.pow_succ, Nat.mul_comm]
    rw [e]
    exact Nat.dvd_of_mod_eq_zero (Nat.sub_mod_eq_zero_of_mod_eq hs)
  rcases hp.dvd_mul hd with h' | h'
  · exact absurd h' h
  · obtain ⟨c, hc⟩ := h'
    have : a ^ n = (n + 1) * c + 1 := by omega
    rw [this, Nat.mul_add_mod, Nat.mod_eq_of_lt (by omega)]


/-- a ^ n modulo m by repeated squaring, with at most k bits of n. -/
def pm (m a : Nat) : Nat → Nat → Nat
  | 0, _ => 1 % m
  | k + 1, n => if n = 0 then 1 % m else
    let h := pm m a k (n / 2)
    if n % 2 = 1 then h * h % m * a % m else h * h % m

theorem pm_eq (m a : Nat) : ∀ k n, n < 2 ^ k → pm m a k n = a ^ n % m := by
  intro k
  induction k with
  | zero =>
    intro n h
    have h0 : n = 0 := by simpa using h
    subst h0
    simp [pm]
  | succ k ih =>
    intro n h
    simp only [pm]
    by_cases h0 : n = 0
    · simp [h0]
    · rw [if_neg h0, ih (n / 2) (by rw [Nat.pow_succ] at h; omega)]
      have hsq : a ^ (n / 2) % m * (a ^ (n / 2) % m) % m = a ^ (n / 2 + n / 2) % m := by rw [← Nat.mul_mod, ← Nat.pow_add]
      rw [hsq]
      by_cases h1 : n % 2 = 1
      · rw [if_pos h1, Nat.mod_mul_mod, ← Nat.pow_succ]
        congr 2
        omega
      · rw [if_neg h1]
        congr 2
        omega

theorem pow_mod_mul {m a x : Nat} (h : a ^ x % m = 1 % m) (y : Nat) : a ^ (x * y) % m = 1 % m := by
  rw [Nat.pow_mul, Nat.pow_mod, h, ← Nat.pow_mod, Nat.one_pow]

/-- If a ^ x and a ^ y are 1 modulo m, so is a ^ gcd x y. -/
theorem pow_gcd {m a : Nat} (hu : ∀ u v, a * u % m = a * v % m → u % m = v % m) : ∀ x y, a ^ x % m = 1 % m → a ^ y % m = 1 % m → a ^ Nat.gcd x y % m = 1 % m := by
  have hun : ∀ n u v, a ^ n * u % m = a ^ n * v % m → u % m = v % m := by
    intro n
    induction n with
    | zero => intro u v h; simpa using h
    | succ n ih =>
      intro u v h
      rw [Nat.pow_succ, Nat.mul_assoc, Nat.mul_assoc] at h
      exact hu _ _ (ih _ _ h)
  intro x
  induction x using Nat.strongRecOn with
  | _ x ih =>
    intro y hx hy
    by_cases h0 : x = 0
    · subst h0; simpa using hy
    · rw [Nat.gcd_rec]
      refine ih (y % x) (Nat.mod_lt _ (by omega)) x ?_ hx
      have e : a ^ y % m = a ^ (x * (y / x)) * a ^ (y % x) % m := by rw [← Nat.pow_add, Nat.div_add_mod]
      rw [Nat.mul_mod, pow_mod_mul hx, ← Nat.mul_mod, Nat.one_mul] at e
      rw [← e, hy]

theorem cancel {m a : Nat} (hg : Nat.gcd m a = 1) {u v : Nat} (h : a * u % m = a * v % m) : u % m = v % m := by
  have key : ∀ u v, v ≤ u → a * u % m = a * v % m → u % m = v % m := by
    intro u v hle h
    have h1 := Nat.dvd_of_mod_eq_zero (Nat.sub_mod_eq_zero_of_mod_eq h)
    rw [← Nat.mul_sub] at h1
    obtain ⟨c, hc⟩ := dvd_of_gcd_mul hg h1
    obtain rfl : u = v + m * c := by omega
    simp
  rcases Nat.le_total v u with hle | hle
  · exact key u v hle h
  · exact (key v u hle h.symm).symm

/-- Every number above 1 has a prime factor, and a prime factor at most its root if it is not prime. -/
theorem exists_prime (n : Nat) (h : 2 ≤ n) : ∃ p, Prime p ∧ p ∣ n := by
  induction n using Nat.strongRecOn with
  | _ n ih =>
    by_cases hp : Prime n
    · exact ⟨n, hp, Nat.dvd_refl n⟩
    · have : ∃ d, d ∣ n ∧ d ≠ 1 ∧ d ≠ n := by
        apply Classical.byContradiction
        intro hc
        refine hp ⟨h, fun d hd => ?_⟩
        by_cases h1 : d = 1
        · exact .inl h1
        · refine .inr ?_
          apply Classical.byContradiction
          intro h2
          exact hc ⟨d, hd, h1, h2⟩
      obtain ⟨d, hd, h1, h2⟩ := this
      have hle := Nat.le_of_dvd (by omega) hd
      have h0 : d ≠ 0 := by rintro rfl; have := Nat.eq_zero_of_zero_dvd hd; omega
      obtain ⟨p, hp, hpd⟩ := ih d (by omega) (by omega)
      exact ⟨p, hp, Nat.dvd_trans hpd hd⟩

theorem prime_of_small {n : Nat} (h : 2 ≤ n) (hs : ∀ p, Prime p → p ∣ n → n < p * p) : Prime n := by
  refine ⟨h, fun d hd => ?_⟩
  apply Classical.byContradiction
  intro hc
  have h1 : d ≠ 1 := fun e => hc (.inl e)
  have h2 : d ≠ n := fun e => hc (.inr e)
  obtain ⟨c, hcd⟩ := hd
  have hc1 : c ≠ 1 := by rintro rfl; omega
  have hd0 : d ≠ 0 := by rintro rfl; simp at hcd; omega
  have hc0 : c ≠ 0 := by rintro rfl; simp at hcd; omega
  obtain ⟨p, hp, hpd⟩ := exists_prime d (by omega)
  obtain ⟨q, hq, hqc⟩ := exists_prime c (by omega)
  have a1 := hs p hp (Nat.dvd_trans hpd ⟨c, hcd⟩)
  have a2 := hs q hq (Nat.dvd_trans hqc ⟨d, by rw [hcd, Nat.mul_comm]⟩)
  have b1 := Nat.le_of_dvd (by omega) hpd
  have b2 := Nat.le_of_dvd (by omega) hqc
  have : p * q ≤ n := by rw [hcd]; exact Nat.mul_le_mul b1 b2
  rcases Nat.le_total p q with hle | hle
  · have := Nat.mul_le_mul_left p hle; omega
  · have := Nat.mul_le_mul_left q hle; rw [Nat.mul_comm q p] at this; omega

/-- Pocklington's test with one prime q. -/
theorem pocklington {n q a : Nat} (h : 2 ≤ n) (hq : Prime q) (hd : q ∣ n - 1) (hlt : n < (q + 1) * (q + 1)) (h1 : a ^ (n - 1) % n = 1) (h2 : Nat.gcd n (a ^ ((n - 1) / q) % n + (n - 1)) = 1) : Prime n := by
  refine prime_of_small h fun p hp hpn => ?_
  have hp2 := hp.1
  obtain ⟨k, hk⟩ := hd
  have hq2 := hq.1
  have hkq : (n - 1) / q = k := by rw [hk, Nat.mul_div_cancel_left _ (by omega)]
  rw [hkq] at h2
  have down : ∀ x y, x % n = y % n → x % p = y % p := fun x y e => by
    rw [← Nat.mod_mod_of_dvd x hpn, ← Nat.mod_mod_of_dvd y hpn, e]
  have hb : (a ^ k) ^ q % p = 1 % p := by
    rw [← Nat.pow_mul, Nat.mul_comm, ← hk]
    exact down _ _ (by rw [h1, Nat.mod_eq_of_lt (by omega)])
  have hbp : ¬ p ∣ a ^ k := by
    intro hdv
    have := Nat.mod_eq_zero_of_dvd (Nat.dvd_trans hdv (Nat.dvd_mul_right (a ^ k) ((a ^ k) ^ (q - 1))))
    rw [← Nat.pow_succ', Nat.succ_eq_add_one, show q - 1 + 1 = q by omega, hb, Nat.mod_eq_of_lt (by omega)] at this
    omega
  have hf := hp.fermat hbp
  by_cases hg : Nat.gcd q (p - 1) = 1
  · exfalso
    have := pow_gcd (m := p) (a := a ^ k) (fun u v e => cancel (hp.coprime hbp) e) q (p - 1) hb (by rw [hf, Nat.mod_eq_of_lt (by omega)])
    rw [hg, Nat.pow_one] at this
    have hx : p ∣ a ^ k % n + (n - 1) := by
      refine Nat.dvd_of_mod_eq_zero ?_
      rw [Nat.add_mod, Nat.mod_mod_of_dvd _ hpn, this]
      rw [← Nat.add_mod]
      rw [show 1 + (n - 1) = n by omega]
      exact Nat.mod_eq_zero_of_dvd hpn
    have := Nat.dvd_gcd hpn hx
    rw [h2] at this
    have := Nat.le_of_dvd (by omega) this
    omega
  · have hqd : q ∣ p - 1 := by
      apply Classical.byContradiction
      intro hn
      exact hg (hq.coprime hn)
    have := Nat.le_of_dvd (by omega) hqd
    exact Nat.lt_of_lt_of_le hlt (Nat.mul_le_mul (by omega) (by omega))


/-- No number from d on, k of them, divides n. -/
def none_divides (n : Nat) : Nat → Nat → Bool
  | 0, _ => true
  | k + 1, d => n % d != 0 && none_divides n k (d + 1)

theorem none_divides_ok (n : Nat) : ∀ k d, none_divides n k d = true → ∀ x, d ≤ x → x < d + k → ¬ x ∣ n := by
  intro k
  induction k with
  | zero => intro d _ x h1 h2; omega
  | succ k ih =>
    intro d h x h1 h2
    simp only [none_divides, Bool.and_eq_true, bne_iff_ne] at h
    by_cases e : x = d
    · subst e; intro hd; exact h.1 (Nat.mod_eq_zero_of_dvd hd)
    · exact ih (d + 1) h.2 x (by omega) (by omega)

theorem prime_of_trial {n k : Nat} (h : 2 ≤ n) (hk : n < (2 + k) * (2 + k)) (ht : none_divides n k 2 = true) : Prime n := by
  refine prime_of_small h fun p hp hpn => ?_
  have h1 := none_divides_ok n k 2 ht p hp.1
  have : 2 + k ≤ p := by
    apply Classical.byContradiction
    intro hc
    exact h1 (by omega) hpn
  exact Nat.lt_of_lt_of_le hk (Nat.mul_le_mul this this)

/-- Pocklington's test, its powers reckoned by 'pm'. -/
theorem pocklington' {n q a k : Nat} (h : 2 ≤ n) (hq : Prime q) (hd : n - 1 = q * k) (hlt : n < (q + 1) * (q + 1)) (hb : n < 2 ^ 64) (h1 : pm n a 64 (n - 1) = 1)
    (h2 : Nat.gcd n (pm n a 64 k + (n - 1)) = 1) : Prime n := by
  have hk : (n - 1) / q = k := by rw [hd, Nat.mul_div_cancel_left _ (by have := hq.1; omega)]
  have hkn : k < 2 ^ 64 := by rw [← hk]; exact Nat.lt_of_le_of_lt (Nat.div_le_self _ _) (by omega)
  refine pocklington (a := a) h hq ⟨k, hd⟩ hlt ?_ ?_
  · rw [← pm_eq n a 64 _ (by omega)]; exact h1
  · rw [hk, ← pm_eq n a 64 _ hkn]; exact h2

theorem prime0 : Prime 7930907 := prime_of_trial (k := 2816) (by decide) (by decide) (by decide +kernel)
theorem prime1 : Prime 11864636873 := pocklington' (q := 7930907) (a := 2) (k := 1496) (by decide) prime0 (by decide) (by decide) (by decide) (by decide +kernel) (by decide +kernel)
theorem prime2 : Prime 1732236983459 := pocklington' (q := 11864636873) (a := 2) (k := 146) (by decide) prime1 (by decide) (by decide) (by decide) (by decide +kernel) (by decide +kernel)
theorem prime3 : Prime 249442125618097 := pocklington' (q := 1732236983459) (a := 2) (k := 144) (by decide) prime2 (by decide) (by decide) (by decide) (by decide +kernel) (by decide +kernel)
theorem prime4 : Prime 2305843009213688669 := pocklington' (q := 249442125618097) (a := 2) (k := 9244) (by decide) prime3 (by decide) (by decide) (by decide) (by decide +kernel) (by decide +kernel)

/-- The order of the group. -/
def Q : Nat := 2305843009213688669
theorem prime_Q : Prime Q := prime4

end Chart

/- Contracts of package field without powers: outside, product, Check, Add, Sub, Mul. -/
namespace Go.Proofs.YtejjincnghmbbaaGreatDoor
open Go.RowKit

/-- The order of the group as the code has it. -/
theorem Q_eq : Chart.Q = 2305843009213688669 := rfl

/-- Is a number no scalar? -/
def outB (x : Int) : Bool := decide (x < 0) || decide (2305843009213688669 ≤ x)
theorem outB_false {x : Int} (h : outB x = false) : 0 ≤ x ∧ x < 2305843009213688669 := by
  unfold outB at h
  simp only [Bool.or_eq_false_iff, decide_eq_false_iff_not] at h
  omega
theorem outB_true {x : Int} (h : outB x = true) : x < 0 ∨ 2305843009213688669 ≤ x := by
  unfold outB at h
  simpa using h
theorem outB_of {x : Int} (h0 : 0 ≤ x) (h1 : x < 2305843009213688669) : outB x = false := by
  unfold outB
  simp only [Bool.or_eq_false_iff, decide_eq_false_iff_not]
  omega
theorem outB_nat {x : Nat} (h1 : x < Chart.Q) : outB (x : Int) = false := outB_of (by omega) (by rw [Q_eq] at h1; omega)

theorem out1_any (x : Int) (w : World) : Calls Tryz.prog 74 #[.int .i64 x] w fun e w' => e = .returned (.bool (outB x)) ∧ w = w' := by
  by_cases h1 : x < 0
  · have hfin : outB x = true := by unfold outB; simp [h1]
    have H := Lib.hid hfin; clear hfin
    go_enter Tryz.func74, Tryz.ntmps74
    go_wp2
    go_ret
    exact ⟨by rw [H.out]; rfl, rfl⟩
  · by_cases h2 : 2305843009213688669 ≤ x
    · have hfin : outB x = true := by unfold outB; simp [h2]
      have H := Lib.hid hfin; clear hfin
      go_enter Tryz.func74, Tryz.ntmps74
      go_wp2
      go_ret
      exact ⟨by rw [H.out]; rfl, rfl⟩
    · have hfin : outB x = false := by unfold outB; simp [h1, h2]
      have H := Lib.hid hfin; clear hfin
      go_enter Tryz.func74, Tryz.ntmps74
      go_wp2
      go_ret
      exact ⟨by rw [H.out]; rfl, rfl⟩

/-- Whole numbers that lie in memory from a place on. -/
def IntsAt (w : World) (g off : Nat) (l : List Int) : Prop := ∀ i (h : i < l.length), w.cell? ⟨g, off + i, none⟩ = some (.int .i64 l[i])

def IdxPost (l : List Int) (w : World) (e : Ending) (w' : World) : Prop := ∃ n : Int, (0 ≤ n ↔ l.any outB = true) ∧ e = .returned (.int .i64 n) ∧ w = w'

theorem any_take_succ (l : List Int) (k : Nat) (h : k < l.length) : (l.take (k + 1)).any outB = ((l.take k).any outB || outB l[k]) := by
  rw [List.take_succ_eq_append_getElem h, List.any_append]
  simp

set_option maxHeartbeats 1000000 in
theorem index_any (l : List Int) (g off cap : Nat) (hm : l.length ≤ 2147483647) (w : World) (hc : IntsAt w g off l) :
    Calls Tryz.prog 93 #[.slice (some ⟨g, off, none⟩) l.length cap, .func (.func 74) #[] #[]] w (IdxPost l w) := by
  go_enter Tryz.func93, Tryz.ntmps93
  go_wp2_with fail
  go_loop [8] (fun i => ∃ k : Nat, k ≤ l.length ∧ i = .int .i64 k ∧ Hid ((l.take k).any outB = false)) (fun i => l.length - (intOf i).toNat)
  case atStart => exact ⟨0, Nat.zero_le _, rfl, Lib.hid (by simp)⟩
  case round =>
    obtain ⟨k, hk, rfl, hF⟩ := hrel
    by_cases hlt : k < l.length
    · have hcell := hc k hlt
      have hs := Lib.hid (any_take_succ l k hlt)
      have hi : (0 : Int) ≤ k ∧ (k : Int) < (l.length : Int) := by omega
      generalize hx : l[k] = x at *
      have HX := Lib.hid hx; clear hx
      by_cases ho : outB x = true
      · have ho' := Lib.hid ho
        go_wp2_with (go_at_call 74; refine (out1_any _ _).mono ?_; rintro e w' ⟨rfl, rfl⟩)
        go_ret
        refine ⟨k, ?_, rfl, rfl⟩
        constructor
        · intro _
          rw [List.any_eq_true]
          exact ⟨l[k], List.getElem_mem hlt, by rw [HX.out]; exact ho'.out⟩
        · intro _; omega
      · have ho2 : outB x = false := by simpa using ho
        clear ho
        go_wp2_with (go_at_call 74; refine (out1_any _ _).mono ?_; rintro e w' ⟨rfl, rfl⟩)
        go_round
        case rel => exact ⟨k + 1, by omega, by go_num, Lib.hid (by rw [hs.out, hF.out, ho2]; rfl)⟩
        case measure => simp [intOf]; omega
    · go_wp2_with fail
      go_ret
      refine ⟨-1, ?_, rfl, rfl⟩
      have e : l.take k = l := List.take_of_length_le (by omega)
      have := hF.out
      rw [e] at this
      rw [this]
      simp
theorem contains_any (l : List Int) (g off cap : Nat) (hm : l.length ≤ 2147483647) (w : World) (hc : IntsAt w g off l) :
    Calls Tryz.prog 73 #[.slice (some ⟨g, off, none⟩) l.length cap, .func (.func 74) #[] #[]] w fun e w' => e = .returned (.bool (l.any outB)) ∧ w = w' := by
  go_enter Tryz.func73, Tryz.ntmps73
  go_wp2_with fail
  refine (index_any l g off cap hm w hc).mono ?_
  rintro e w' ⟨n, hn, rfl, rfl⟩
  have H := Lib.hid hn; clear hn
  by_cases h : 0 ≤ n
  · have hfin := Lib.hid (H.out.1 h)
    go_wp2
    go_ret
    exact ⟨by rw [hfin.out]; rfl, rfl⟩
  · have hfin : l.any outB = false := by
      rw [Bool.eq_false_iff]; intro hc; exact h (H.out.2 hc)
    have hfin' := Lib.hid hfin; clear hfin
    go_wp2
    go_ret
    exact ⟨by rw [hfin'.out]; simp; omega, rfl⟩

theorem outside_any (l : List Int) (g off cap : Nat) (hm : l.length ≤ 2147483647) (w : World) (hc : IntsAt w g off l) :
    Calls Tryz.prog 54 #[.slice (some ⟨g, off, none⟩) l.length cap] w fun e w' => e = .returned (.bool (l.any outB)) ∧ w = w' := by
  go_enter Tryz.func54, Tryz.ntmps54
  go_wp2_with fail
  refine (contains_any l g off cap hm w hc).mono ?_
  rintro e w' ⟨rfl, rfl⟩
  go_wp2
  go_ret
  exact ⟨rfl, rfl⟩

/-- Of two numbers that are laid anew. -/
theorem outside_two (a b : Int) (w : World) :
    Calls Tryz.prog 54 #[.slice (some ⟨w.heap.size, 0, none⟩) 2 2] (w.alloc (.cells #[.int .i64 a, .int .i64 b] 3)) fun e w' => e = .returned (.bool (outB a || outB b)) ∧ w.alloc (.cells #[.int .i64 a, .int .i64 b] 3) = w' := by
  refine (outside_any [a, b] w.heap.size 0 2 (by simp) _ ?_).mono fun e w' ⟨he, hw⟩ => ⟨by rw [he]; simp, hw⟩
  intro i h
  rcases i with _ | _ | i
  · simp
  · simp
  · simp only [List.length_cons, List.length_nil] at h; omega

theorem outside_one (a : Int) (w : World) :
    Calls Tryz.prog 54 #[.slice (some ⟨w.heap.size, 0, none⟩) 1 1] (w.alloc (.cells #[.int .i64 a] 3)) fun e w' => e = .returned (.bool (outB a)) ∧ w.alloc (.cells #[.int .i64 a] 3) = w' := by
  refine (outside_any [a] w.heap.size 0 1 (by simp) _ ?_).mono fun e w' ⟨he, hw⟩ => ⟨by rw [he]; simp, hw⟩
  intro i h
  rcases i with _ | i
  · simp
  · simp only [List.length_cons, List.length_nil] at h; omega

/-- The product of two scalars. -/
theorem product_any (a b : Nat) (ha : a < Chart.Q) (hb : b < Chart.Q) (w : World) :
    Calls Tryz.prog 58 #[.int .i64 a, .int .i64 b] w fun e w' => e = .returned (.int .i64 ((a * b % Chart.Q : Nat) : Int)) ∧ Below w.heap.size w w' := by
  have hQ := Q_eq
  have h1 : a < 18446744073709551616 := by omega
  have h2 : b < 18446744073709551616 := by omega
  have h3 : IntKind.u64.wrap (a : Int) = (a : Int) := wrap_small a h1
  have h4 : IntKind.u64.wrap (b : Int) = (b : Int) := wrap_small b h2
  have h5 : a * b / 18446744073709551616 < 2305843009213688669 := by
    have h6 : a * b < 2305843009213688669 * 18446744073709551616 := Nat.mul_lt_mul_of_lt_of_le (by omega) (by omega) (by decide)
    exact (Nat.div_lt_iff_lt_mul (by decide)).2 h6
  have h7 := Nat.div_add_mod' (a * b) 18446744073709551616
  have h8 : a * b % Chart.Q < Chart.Q := Nat.mod_lt _ (by rw [Q_eq]; decide)
  have h9 : a * b % 18446744073709551616 < 18446744073709551616 := Nat.mod_lt _ (by decide)
  obtain ⟨hi, hhi⟩ : ∃ n, n = a * b / 18446744073709551616 := ⟨_, rfl⟩
  obtain ⟨lo, hlo⟩ : ∃ n, n = a * b % 18446744073709551616 := ⟨_, rfl⟩
  obtain ⟨r, hr⟩ : ∃ n, n = a * b % Chart.Q := ⟨_, rfl⟩
  have c1 := mul64_any a b h1 h2 w
  have c2 := div64_any hi lo 2305843009213688669 (by omega) (by omega) (by decide) w
  rw [← hhi, ← hlo] at c1 h7
  rw [h7, ← Q_eq, ← hr] at c2
  rw [← hr] at h8 ⊢
  have h10 : IntKind.i64.wrap (r : Int) = (r : Int) := by
    rw [IntKind.wrap_i64]; omega
  have C1 := Lib.hid c1; have C2 := Lib.hid c2
  clear c1 c2 h7 hhi hlo hr hQ h5 h8 h9 h1 h2 ha hb
  go_enter Tryz.func58, Tryz.ntmps58
  go_wp2_with fail
  refine C1.out.mono ?_
  rintro e w' ⟨rfl, rfl⟩
  go_wp2_with fail
  refine C2.out.mono ?_
  rintro e w' ⟨rfl, hb⟩
  go_wp2_with fail
  go_ret
  exact ⟨rfl, hb⟩

/-- A number that fits is not wrapped. -/
theorem wrap_i64_small (r : Int) (h0 : -9223372036854775808 ≤ r) (h1 : r ≤ 9223372036854775807) : IntKind.i64.wrap r = r := by
  rw [IntKind.wrap_i64]; omega

/-- Two results: a number and an error code. -/
abbrev two (a e : Int) : Ending := .returned (.tuple #[.int .i64 a, .int .i64 e])

theorem fmul_bad (a b : Int) (h : (outB a || outB b) = true) (w : World) :
    Calls Tryz.prog 41 #[.int .i64 a, .int .i64 b] w fun e w' => e = two 0 1 ∧ Below w.heap.size w w' := by
  go_enter Tryz.func41, Tryz.ntmps41
  go_wp2_with fail
  refine (outside_two a b w).mono ?_
  rintro e w' ⟨rfl, rfl⟩
  rw [h]
  clear h
  go_wp2_with fail
  go_ret2
  exact ⟨rfl, (Below.refl _ _).alloc (Nat.le_refl _) _⟩

theorem fmul_any (a b : Nat) (ha : a < Chart.Q) (hb : b < Chart.Q) (w : World) :
    Calls Tryz.prog 41 #[.int .i64 a, .int .i64 b] w fun e w' => e = two ((a * b % Chart.Q : Nat) : Int) 0 ∧ Below w.heap.size w w' := by
  have h : (outB (a : Int) || outB (b : Int)) = false := by rw [outB_nat ha, outB_nat hb]; rfl
  obtain ⟨r, hr⟩ : ∃ n, n = a * b % Chart.Q := ⟨_, rfl⟩
  have c := product_any a b ha hb (w.alloc (.cells #[.int .i64 a, .int .i64 b] 3))
  rw [← hr] at c ⊢
  have C := Lib.hid c
  clear c hr ha hb
  go_enter Tryz.func41, Tryz.ntmps41
  go_wp2_with fail
  refine (outside_two (a : Int) (b : Int) w).mono ?_
  rintro e w' ⟨rfl, rfl⟩
  rw [h]
  clear h
  go_wp2_with fail
  refine C.out.mono ?_
  rintro e w' ⟨rfl, hb⟩
  go_wp2_with fail
  go_ret2
  exact ⟨rfl, ((Below.refl _ _).alloc (Nat.le_refl _) _).trans (hb.mono (by simp))⟩

end Go.Proofs.YtejjincnghmbbaaGreatDoor
