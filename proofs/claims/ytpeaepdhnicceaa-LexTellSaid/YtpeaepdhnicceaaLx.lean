/- What the chapter lex says, over lists of bytes. -/
namespace Go.Proofs.Ytpeaepdhnicceaa.Lx
def letter (b : UInt8) : Bool := decide (97 ≤ b.toNat) && decide (b.toNat ≤ 122)
def digit (b : UInt8) : Bool := decide (48 ≤ b.toNat) && decide (b.toNat ≤ 57)
def mark (b : UInt8) : Bool := letter b || digit b || decide (b.toNat = 95)
def noEnd (b : UInt8) : Bool := decide (b.toNat ≠ 10)
def blank (b : UInt8) : Bool := decide (b.toNat = 32) || decide (b.toNat = 9) || decide (b.toNat = 10) || decide (b.toNat = 13)
def run (p : UInt8 → Bool) (l : List UInt8) : Nat := (l.takeWhile p).length
theorem run_nil (p : UInt8 → Bool) : run p [] = 0 := rfl
theorem run_yes {p : UInt8 → Bool} {b : UInt8} {l : List UInt8} (h : p b = true) : run p (b :: l) = 1 + run p l := by
  unfold run; rw [List.takeWhile_cons, if_pos h, List.length_cons]; omega
theorem run_no {p : UInt8 → Bool} {b : UInt8} {l : List UInt8} (h : p b = false) : run p (b :: l) = 0 := by
  unfold run; rw [List.takeWhile_cons, if_neg (by simp [h])]; rfl
theorem run_le (p : UInt8 → Bool) (l : List UInt8) : run p l ≤ l.length := by
  induction l with
  | nil => exact Nat.le_refl _
  | cons b l ih => cases h : p b with
    | true => rw [run_yes h, List.length_cons]; omega
    | false => rw [run_no h]; omega
/-- How many bytes are blanks and remarks (true: within a remark). -/
def skip : Bool → List UInt8 → Nat
  | _, [] => 0
  | true, b :: t => 1 + skip (noEnd b) t
  | false, b :: t => if blank b then 1 + skip false t else if b.toNat = 35 then 1 + skip true t else 0
theorem skip_le : ∀ (r : Bool) (l : List UInt8), skip r l ≤ l.length
  | true, [] => Nat.le_refl _
  | false, [] => Nat.le_refl _
  | true, b :: t => by have := skip_le (noEnd b) t; rw [List.length_cons]; unfold skip; omega
  | false, b :: t => by
    have := skip_le false t; have := skip_le true t
    rw [List.length_cons]; unfold skip; split
    · omega
    · split <;> omega
theorem skip_run : ∀ (l : List UInt8), skip true l = run noEnd l + skip false (l.drop (run noEnd l))
  | [] => rfl
  | b :: t => by
    have ih := skip_run t
    cases h : noEnd b with
    | true =>
      rw [run_yes h, Nat.add_comm 1 (run noEnd t), List.drop_succ_cons, skip, h, ih]; omega
    | false =>
      rw [run_no h, List.drop_zero, skip, h, Nat.zero_add]
      have hb : blank b = true := by
        unfold noEnd at h; unfold blank
        have : b.toNat = 10 := by simpa using h
        simp [this]
      rw [skip, if_pos hb]
/-- What stands behind a quote: the text, and how many bytes with the quote at its end. -/
def text : List UInt8 → Option (List UInt8 × Nat)
  | [] => none
  | b :: t => if b.toNat < 32 ∨ 126 < b.toNat then none else if b.toNat = 34 then some ([], 1) else
    if b.toNat = 92 then (match t with
      | c :: u => if c.toNat = 34 ∨ c.toNat = 92 then (text u).map (fun q => (c :: q.1, q.2 + 2)) else none
      | [] => none)
    else (text t).map (fun q => (b :: q.1, q.2 + 1))
def signA (b : UInt8) : Bool := decide (b.toNat = 60) || decide (b.toNat = 62) || decide (b.toNat = 61) || decide (b.toNat = 33) || decide (b.toNat = 94)
def signB (b : UInt8) : Bool := decide (b.toNat = 123) || decide (b.toNat = 125) || decide (b.toNat = 40) || decide (b.toNat = 41) || decide (b.toNat = 91) || decide (b.toNat = 93) || decide (b.toNat = 44) || decide (b.toNat = 58) || decide (b.toNat = 59) || decide (b.toNat = 61) || decide (b.toNat = 60) || decide (b.toNat = 62) || decide (b.toNat = 45)
def sign : List UInt8 → Nat
  | [] => 0
  | [b] => if signB b then 1 else 0
  | b :: c :: _ => if c.toNat = 61 ∧ signA b = true then 2 else if signB b then 1 else 0
/-- How many bytes a number has. -/
def num (l : List UInt8) : Nat :=
  let n := run digit l
  match l.drop n with
  | [] => n
  | c :: t => if c.toNat = 46 ∧ 0 < run digit t then n + (1 + run digit t) else n
/-- The token at a place: its kind, its text, how many bytes it has (0: there is none). -/
def one (l : List UInt8) : Nat × List UInt8 × Nat :=
  match l with
  | [] => (4, [], 0)
  | b :: t =>
    if letter b then (1, l.take (run mark l), run mark l)
    else if digit b then (2, l.take (num l), num l)
    else if b.toNat = 34 then (match text t with | some q => (3, q.1, q.2 + 1) | none => (3, [], 0))
    else (4, l.take (sign l), sign l)
structure Tok where
  kind : Nat
  text : List UInt8
  at' : Nat
/-- The tokens from a place on, and where what is none begins. -/
def toks : Nat → Nat → List UInt8 → List Tok × Option Nat
  | 0, _, _ => ([], none)
  | k + 1, a, l =>
    let r := l.drop (skip false l)
    let a := a + skip false l
    match r with
    | [] => ([], none)
    | _ :: _ =>
      let x := one r
      if x.2.2 = 0 then ([], some a)
      else
        let q := toks k (a + x.2.2) (r.drop x.2.2)
        (⟨x.1, x.2.1, a⟩ :: q.1, q.2)
end Go.Proofs.Ytpeaepdhnicceaa.Lx
