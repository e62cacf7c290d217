/- The plain mathematics of the crc. -/
namespace Go.Proofs.Crc

abbrev W := BitVec 32
def D : W := 0x82f63b78#32
def one : W := 0x80000000#32
def up (p : W) : W := if p.getLsbD 0 = true then (p >>> 1) ^^^ D else p >>> 1
def pow : Nat → W → W
  | 0, p => p
  | n + 1, p => up (pow n p)

theorem xor_swap (a b c d : W) : (a ^^^ b) ^^^ (c ^^^ d) = (a ^^^ c) ^^^ (b ^^^ d) := by
  simp only [BitVec.xor_assoc]; rw [← BitVec.xor_assoc b c d, BitVec.xor_comm b c, BitVec.xor_assoc]

theorem up_xor (a b : W) : up (a ^^^ b) = up a ^^^ up b := by
  unfold up
  rw [BitVec.getLsbD_xor, BitVec.ushiftRight_xor_distrib]
  cases a.getLsbD 0 <;> cases b.getLsbD 0
  · simp
  · simp [BitVec.xor_assoc]
  · simp only [Bool.xor_false, if_true, Bool.false_eq_true, if_false]; rw [BitVec.xor_assoc, BitVec.xor_comm _ D, ← BitVec.xor_assoc]
  · simp only [Bool.xor_true, Bool.not_true, Bool.false_eq_true, if_false, if_true]; rw [xor_swap, BitVec.xor_self, BitVec.xor_zero]

theorem up_zero : up 0#32 = 0#32 := by decide
theorem pow_zero' (n : Nat) : pow n 0#32 = 0#32 := by induction n with | zero => rfl | succ n ih => rw [pow, ih, up_zero]
theorem pow_xor (n : Nat) (a b : W) : pow n (a ^^^ b) = pow n a ^^^ pow n b := by
  induction n with | zero => rfl | succ n ih => rw [pow, ih, up_xor]; rfl
theorem pow_add (n m : Nat) (a : W) : pow (n + m) a = pow n (pow m a) := by
  induction n with | zero => rw [Nat.zero_add]; rfl | succ n ih => rw [Nat.succ_add, pow, ih]; rfl
theorem pow_up (n : Nat) (a : W) : pow n (up a) = up (pow n a) := by
  induction n with | zero => rfl | succ n ih => rw [pow, ih]; rfl
theorem pow_comm (n m : Nat) (a : W) : pow n (pow m a) = pow m (pow n a) := by rw [← pow_add, ← pow_add, Nat.add_comm]

theorem up_top (p : W) : (up p).getLsbD 31 = p.getLsbD 0 := by
  unfold up
  cases h : p.getLsbD 0
  · simp
  · simp [D]
theorem up_inj {a b : W} (h : up a = up b) : a = b := by
  have h0 : a.getLsbD 0 = b.getLsbD 0 := by rw [← up_top, ← up_top, h]
  have hs : a >>> 1 = b >>> 1 := by
    unfold up at h
    rw [h0] at h
    split at h
    · have := congrArg (· ^^^ D) h
      simpa [BitVec.xor_assoc] using this
    · exact h
  apply BitVec.eq_of_getLsbD_eq
  intro i hi
  cases i with
  | zero => exact h0
  | succ i =>
    have := congrArg (fun x : W => x.getLsbD i) hs
    simpa [BitVec.getLsbD_ushiftRight, Nat.add_comm] using this
theorem pow_inj (n : Nat) {a b : W} (h : pow n a = pow n b) : a = b := by
  induction n with | zero => exact h | succ n ih => exact ih (up_inj h)

theorem pow_one : ∀ i : Fin 32, pow i.val one = BitVec.twoPow 32 (31 - i.val) := by decide +kernel
theorem pow_one' {i : Nat} (h : i < 32) : pow i one = BitVec.twoPow 32 (31 - i) := pow_one ⟨i, h⟩
theorem bit_pow_one {i j : Nat} (hi : i < 32) (hj : j < 32) : (pow j one).getLsbD (31 - i) = decide (i = j) := by
  rw [pow_one' hj, BitVec.getLsbD_twoPow]
  by_cases h : i = j
  · subst h; simp; omega
  · have : ¬ 31 - j = 31 - i := by omega
    simp [h, this]

/-- What holds of 0 and of the powers of x below 32, and of a sum where it holds of both, holds of all. -/
theorem basis {P : W → Prop} (h0 : P 0#32) (hx : ∀ a b, P a → P b → P (a ^^^ b)) (hb : ∀ i, i < 32 → P (pow i one)) (w : W) : P w := by
  have key : ∀ k, k ≤ 32 → ∀ w : W, (∀ i, k ≤ i → w.getLsbD i = false) → P w := by
    intro k
    induction k with
    | zero =>
      intro _ w hw
      have : w = 0#32 := BitVec.eq_of_getLsbD_eq fun i _ => by rw [hw i (Nat.zero_le i)]; simp
      rw [this]; exact h0
    | succ k ih =>
      intro hk w hw
      cases hb' : w.getLsbD k with
      | false =>
        refine ih (by omega) w fun i hi => ?_
        by_cases e : i = k
        · rw [e]; exact hb'
        · exact hw i (by omega)
      | true =>
        have e : w = (w ^^^ pow (31 - k) one) ^^^ pow (31 - k) one := by rw [BitVec.xor_assoc, BitVec.xor_self, BitVec.xor_zero]
        rw [e]
        refine hx _ _ (ih (by omega) _ fun i hi => ?_) (hb _ (by omega))
        rw [BitVec.getLsbD_xor, pow_one' (by omega), BitVec.getLsbD_twoPow]
        have hk2 : 31 - (31 - k) = k := by omega
        rw [hk2]
        by_cases e : i = k
        · subst e; simp [hb']; omega
        · rw [hw i (by omega)]; have : ¬ k = i := by omega
          simp [this]
  exact key 32 (Nat.le_refl _) w fun i hi => BitVec.getLsbD_of_ge _ _ hi

def prodTo (p q : W) : Nat → W
  | 0 => 0#32
  | i + 1 => if p.getLsbD (31 - i) = true then prodTo p q i ^^^ pow i q else prodTo p q i
def prod (p q : W) : W := prodTo p q 32

theorem prodTo_xor_left (a b q : W) (i : Nat) : prodTo (a ^^^ b) q i = prodTo a q i ^^^ prodTo b q i := by
  induction i with
  | zero => simp [prodTo]
  | succ i ih =>
    simp only [prodTo, BitVec.getLsbD_xor]
    cases a.getLsbD (31 - i) <;> cases b.getLsbD (31 - i)
    · simpa using ih
    · simp only [Bool.xor_true, Bool.not_false, if_true, Bool.false_eq_true, if_false]; rw [ih, BitVec.xor_assoc]
    · simp only [Bool.xor_false, if_true, Bool.false_eq_true, if_false]; rw [ih, BitVec.xor_assoc, BitVec.xor_comm _ (pow i q), ← BitVec.xor_assoc]
    · simp only [Bool.xor_true, Bool.not_true, Bool.false_eq_true, if_false, if_true]; rw [ih, xor_swap, BitVec.xor_self, BitVec.xor_zero]
theorem prodTo_xor_right (p a b : W) (i : Nat) : prodTo p (a ^^^ b) i = prodTo p a i ^^^ prodTo p b i := by
  induction i with
  | zero => simp [prodTo]
  | succ i ih =>
    simp only [prodTo]
    split
    · rw [ih, pow_xor, xor_swap]
    · exact ih
theorem prodTo_up (p q : W) (i : Nat) : prodTo p (up q) i = up (prodTo p q i) := by
  induction i with
  | zero => simp [prodTo, up_zero]
  | succ i ih =>
    simp only [prodTo]
    split
    · rw [ih, up_xor, pow_up]
    · exact ih
theorem prodTo_pow_one (j : Nat) (hj : j < 32) (q : W) (i : Nat) (hi : i ≤ 32) : prodTo (pow j one) q i = if j < i then pow j q else 0#32 := by
  induction i with
  | zero => simp [prodTo]
  | succ i ih =>
    simp only [prodTo]
    rw [bit_pow_one (by omega) hj, ih (by omega)]
    by_cases h : i = j
    · subst h; simp
    · have : (j < i + 1) = (j < i) := by apply propext; omega
      simp [h, this]
theorem prod_pow_one {j : Nat} (hj : j < 32) (q : W) : prod (pow j one) q = pow j q := by
  unfold prod; rw [prodTo_pow_one j hj q 32 (Nat.le_refl _), if_pos hj]
theorem prodTo_zero_left (q : W) (i : Nat) : prodTo 0#32 q i = 0#32 := by
  induction i with
  | zero => rfl
  | succ i ih => simp [prodTo, ih]
theorem prodTo_zero_right (p : W) (i : Nat) : prodTo p 0#32 i = 0#32 := by
  induction i with
  | zero => rfl
  | succ i ih => simp [prodTo, ih, pow_zero']
theorem prod_xor_left (a b q : W) : prod (a ^^^ b) q = prod a q ^^^ prod b q := prodTo_xor_left a b q 32
theorem prod_xor_right (p a b : W) : prod p (a ^^^ b) = prod p a ^^^ prod p b := prodTo_xor_right p a b 32
theorem prod_up (p q : W) : prod p (up q) = up (prod p q) := prodTo_up p q 32
theorem prod_pow (p q : W) (n : Nat) : prod p (pow n q) = pow n (prod p q) := by
  induction n with | zero => rfl | succ n ih => rw [pow, prod_up, ih]; rfl
theorem prod_one (q : W) : prod q one = q := by
  refine basis (P := fun q => prod q one = q) (prodTo_zero_left _ 32) (fun a b ha hb => by rw [prod_xor_left, ha, hb]) (fun i hi => prod_pow_one hi one) q
theorem prod_comm (p q : W) : prod p q = prod q p := by
  refine basis (P := fun p => prod p q = prod q p) ?_ (fun a b ha hb => by rw [prod_xor_left, prod_xor_right, ha, hb]) (fun i hi => ?_) p
  · rw [prod, prod, prodTo_zero_left, prodTo_zero_right]
  · rw [prod_pow_one hi, prod_pow, prod_one]
theorem pow_prod (p q : W) (n : Nat) : prod (pow n p) q = pow n (prod p q) := by rw [prod_comm, prod_pow, prod_comm]
/-- A product with a power of x is so many times x. -/
theorem prod_pow_any (q : W) (n : Nat) : prod q (pow n one) = pow n q := by rw [prod_pow, prod_one]
theorem pow_square (n : Nat) : prod (pow n one) (pow n one) = pow (2 * n) one := by
  rw [prod_pow_any, ← pow_add]; congr 1; omega

def squares : Nat → W
  | 0 => up one
  | k + 1 => prod (squares k) (squares k)
theorem squares_eq (k : Nat) : squares k = pow (2 ^ k) one := by
  induction k with
  | zero => rfl
  | succ k ih => rw [squares, ih, pow_square, Nat.pow_succ, Nat.mul_comm]
def sq (p : W) : W := prod p p
theorem round31 : squares 31 = up one := by decide +kernel
theorem round_one : pow 2147483647 one = one := by
  apply up_inj
  have h : pow (2147483647 + 1) one = up one := by
    rw [show 2147483647 + 1 = 2 ^ 31 from rfl, ← squares_eq]; exact round31
  exact h
theorem round_any (p : W) : pow 2147483647 p = p := by rw [← prod_pow_any, round_one, prod_one]
theorem round_times (k : Nat) (p : W) : pow (2147483647 * k) p = p := by
  induction k with | zero => rfl | succ k ih => rw [Nat.mul_succ, pow_add, round_any, ih]
end Go.Proofs.Crc

namespace Go.Proofs.Crc
/-! ### bytes -/
def wide (x : UInt8) : W := BitVec.setWidth 32 x.toBitVec
def step (l : W) (x : UInt8) : W := pow 8 (l ^^^ wide x)
def run (l : W) (bs : List UInt8) : W := bs.foldl step l
def sum (bs : List UInt8) : W := ~~~ run (~~~ 0#32) bs
def join (a b : W) (n : Nat) : W := pow (8 * n) a ^^^ b

theorem run_append (l : W) (a b : List UInt8) : run l (a ++ b) = run (run l a) b := List.foldl_append ..
theorem run_snoc (l : W) (a : List UInt8) (x : UInt8) : run l (a ++ [x]) = step (run l a) x := by rw [run_append]; rfl
theorem xor_right_swap (a b c : W) : a ^^^ b ^^^ c = a ^^^ c ^^^ b := by rw [BitVec.xor_assoc, BitVec.xor_comm b c, ← BitVec.xor_assoc]
theorem run_xor (bs : List UInt8) : ∀ (a b : W), run (a ^^^ b) bs = run a bs ^^^ pow (8 * bs.length) b := by
  induction bs with
  | nil => intro a b; rfl
  | cons x bs ih =>
    intro a b
    have e : step (a ^^^ b) x = step a x ^^^ pow 8 b := by unfold step; rw [xor_right_swap, pow_xor]
    show run (step (a ^^^ b) x) bs = run (step a x) bs ^^^ _
    rw [e, ih, ← pow_add, List.length_cons, Nat.mul_succ]
theorem not_eq_xor (a : W) : ~~~ a = a ^^^ (~~~ 0#32) := by
  apply BitVec.eq_of_getLsbD_eq
  intro i hi
  rw [BitVec.getLsbD_not, BitVec.getLsbD_xor, BitVec.getLsbD_not]; simp only [hi, decide_true, Bool.true_and, BitVec.getLsbD_zero]; cases a.getLsbD i <;> rfl
theorem not_xor_not (a b : W) : ~~~ a ^^^ ~~~ b = a ^^^ b := by
  rw [not_eq_xor a, not_eq_xor b, xor_swap, BitVec.xor_self, BitVec.xor_zero]
/-- The sum of two rows, one behind the other, by their sums and the second one's length. -/
theorem sum_append (a b : List UInt8) : sum (a ++ b) = join (sum a) (sum b) b.length := by
  unfold sum join
  have e : run (~~~ 0#32) a = (~~~ 0#32) ^^^ ~~~ run (~~~ 0#32) a := by
    rw [not_eq_xor (run _ a), BitVec.xor_comm, BitVec.xor_assoc, BitVec.xor_self, BitVec.xor_zero]
  rw [run_append, e, run_xor, not_eq_xor (_ ^^^ _), not_eq_xor (run (~~~ 0#32) b)]
  rw [xor_right_swap, ← e, BitVec.xor_comm]
theorem sum_nil : sum [] = 0#32 := by decide
theorem join_assoc (a b c : W) (n m : Nat) : join (join a b n) c m = join a (join b c m) (n + m) := by
  unfold join
  rw [pow_xor, ← pow_add, BitVec.xor_assoc]; congr 2; omega

/-! ### the table -/
def tab (i : Nat) : W := pow 8 (BitVec.ofNat 32 i)
theorem pow_low (k : Nat) : ∀ p : W, (∀ i, i < k → p.getLsbD i = false) → pow k p = p >>> k := by
  induction k with
  | zero => intro p _; simp [pow]
  | succ k ih =>
    intro p hp
    have e : up p = p >>> 1 := by unfold up; rw [if_neg (by rw [hp 0 (by omega)]; simp)]
    rw [pow, ← pow_up, e, ih _ (fun i hi => by rw [BitVec.getLsbD_ushiftRight]; exact hp _ (by omega)), ← BitVec.shiftRight_add, Nat.add_comm]
theorem step_tab (l : W) (x : UInt8) : step l x = tab ((l ^^^ wide x).toNat % 256) ^^^ (l >>> 8) := by
  have hlow : ∀ w : W, w = (w &&& 0xffffff00#32) ^^^ BitVec.ofNat 32 (w.toNat % 256) := by
    intro w
    apply BitVec.eq_of_getLsbD_eq
    intro i hi
    have hm : ∀ i : Fin 32, (0xffffff00#32 : W).getLsbD i.val = decide (8 ≤ i.val) := by decide
    rw [BitVec.getLsbD_xor, BitVec.getLsbD_and, hm ⟨i, hi⟩, BitVec.getLsbD_ofNat]
    have e : (w.toNat % 256).testBit i = (decide (i < 8) && w.getLsbD i) := by
      rw [show 256 = 2 ^ 8 from rfl, Nat.testBit_mod_two_pow]; rfl
    rw [e]
    by_cases h : i < 8
    · have : ¬ 8 ≤ i := by omega
      simp [h, this, hi]
    · have : 8 ≤ i := by omega
      simp [h, this]
  unfold step tab
  conv => lhs; rw [hlow (l ^^^ wide x)]
  rw [pow_xor, BitVec.xor_comm]
  congr 1
  have hm : ∀ i : Fin 32, (0xffffff00#32 : W).getLsbD i.val = decide (8 ≤ i.val) := by decide
  rw [pow_low 8 _ (fun i hi => by rw [BitVec.getLsbD_and, hm ⟨i, by omega⟩]; have : ¬ 8 ≤ i := by omega
                                  simp [this])]
  apply BitVec.eq_of_getLsbD_eq
  intro i hi
  rw [BitVec.getLsbD_ushiftRight, BitVec.getLsbD_ushiftRight, BitVec.getLsbD_and, BitVec.getLsbD_xor]
  by_cases h : 8 + i < 32
  · rw [hm ⟨8 + i, h⟩]
    have hw : (wide x).getLsbD (8 + i) = false := by
      unfold wide; rw [BitVec.getLsbD_setWidth, BitVec.getLsbD_of_ge _ _ (by omega)]; simp
    rw [hw]; simp
  · rw [BitVec.getLsbD_of_ge _ _ (by omega)]; simp [BitVec.getLsbD_of_ge _ _ (Nat.le_of_not_lt h)]

/-! ### bit by bit -/
def bitw (b : Bool) : W := if b then 1#32 else 0#32
def bits (l : W) (x : W) : Nat → W
  | 0 => l
  | k + 1 => up (bits l x k ^^^ bitw (x.getLsbD k))
theorem bits_shift (l x : W) (k : Nat) : bits l x (k + 1) = bits (up (l ^^^ bitw (x.getLsbD 0))) (x >>> 1) k := by
  induction k with
  | zero => rfl
  | succ k ih =>
    rw [bits, ih, bits, BitVec.getLsbD_ushiftRight, Nat.add_comm 1 k]
theorem bits_pow (k : Nat) : ∀ l x : W, (∀ i, k ≤ i → x.getLsbD i = false) → bits l x k = pow k (l ^^^ x) := by
  induction k with
  | zero =>
    intro l x hx
    have : x = 0#32 := BitVec.eq_of_getLsbD_eq fun i _ => by rw [hx i (Nat.zero_le i)]; simp
    rw [this]; simp [bits, pow]
  | succ k ih =>
    intro l x hx
    rw [bits_shift, ih _ _ (fun i hi => by rw [BitVec.getLsbD_ushiftRight]; exact hx _ (by omega)), pow, ← pow_up]
    congr 1
    have e : l ^^^ x = (l ^^^ bitw (x.getLsbD 0)) ^^^ (x ^^^ bitw (x.getLsbD 0)) := by
      rw [xor_swap, BitVec.xor_self, BitVec.xor_zero]
    rw [e, up_xor (l ^^^ bitw (x.getLsbD 0))]
    congr 1
    have h0 : (x ^^^ bitw (x.getLsbD 0)).getLsbD 0 = false := by
      rw [BitVec.getLsbD_xor]; unfold bitw; cases x.getLsbD 0 <;> simp
    generalize hz : x ^^^ bitw (x.getLsbD 0) = z at h0
    have ez : up z = z >>> 1 := by unfold up; rw [if_neg (by rw [h0]; simp)]
    rw [ez, ← hz]
    apply BitVec.eq_of_getLsbD_eq
    intro i _
    rw [BitVec.getLsbD_ushiftRight, BitVec.getLsbD_ushiftRight, BitVec.getLsbD_xor]
    have : (bitw (x.getLsbD 0)).getLsbD (1 + i) = false := by unfold bitw; cases x.getLsbD 0 <;> simp [Nat.add_comm]
    rw [this]; simp
theorem bits_wide (l : W) (x : UInt8) : bits l (wide x) 8 = step l x :=
  bits_pow 8 l (wide x) fun i hi => by unfold wide; rw [BitVec.getLsbD_setWidth, BitVec.getLsbD_of_ge _ _ hi]; simp

/-! ### parity -/
def parTo (p : W) : Nat → Bool
  | 0 => false
  | i + 1 => parTo p i ^^ p.getLsbD i
def par (p : W) : Bool := parTo p 32
theorem parTo_xor (a b : W) (i : Nat) : parTo (a ^^^ b) i = (parTo a i ^^ parTo b i) := by
  induction i with
  | zero => rfl
  | succ i ih =>
    simp only [parTo, ih, BitVec.getLsbD_xor]
    cases parTo a i <;> cases parTo b i <;> cases a.getLsbD i <;> cases b.getLsbD i <;> rfl
theorem par_xor (a b : W) : par (a ^^^ b) = (par a ^^ par b) := parTo_xor a b 32
theorem par_up (p : W) : par (up p) = par p := by
  refine basis (P := fun p => par (up p) = par p) (by decide) (fun a b ha hb => by rw [up_xor, par_xor, par_xor, ha, hb]) (fun i hi => ?_) p
  have h : ∀ i : Fin 32, par (up (pow i.val one)) = par (pow i.val one) := by decide +kernel
  exact h ⟨i, hi⟩
theorem par_pow (n : Nat) (p : W) : par (pow n p) = par p := by
  induction n with | zero => rfl | succ n ih => rw [pow, par_up, ih]
def odd (bs : List UInt8) : Bool := bs.foldl (fun o x => o ^^ par (wide x)) false
theorem odd_snoc (bs : List UInt8) (x : UInt8) : odd (bs ++ [x]) = (odd bs ^^ par (wide x)) := by unfold odd; rw [List.foldl_append]; rfl
theorem par_run (bs : List UInt8) : ∀ l, par (run l bs) = bs.foldl (fun o x => o ^^ par (wide x)) (par l) := by
  induction bs with
  | nil => intro l; rfl
  | cons x bs ih =>
    intro l
    show par (run (step l x) bs) = bs.foldl _ (par l ^^ par (wide x))
    rw [ih]; unfold step; rw [par_pow, par_xor]
end Go.Proofs.Crc
