/- Chapter 29 in plain words: lexing, parsing, evaluating, printing; printed policies are lexed to what they were; the examples. No program in sight. | Chapter 29, plain: the parser lays no more nodes than it eats tokens. -/
import Derived.WalkKit
namespace Go.Proofs.YtdeccekeknlnoaaGreatDoor
namespace Po

def blank (b : UInt8) : Bool := b == 32 || b == 9 || b == 10
def letter (b : UInt8) : Bool := (97 ≤ b && b ≤ 122) || (65 ≤ b && b ≤ 90)
def digit (b : UInt8) : Bool := 48 ≤ b && b ≤ 57
def word (b : UInt8) : Bool := letter b || digit b || b == 95
def ops : List (List UInt8) := [[61, 61], [38, 38], [124, 124], [62, 61], [123], [125], [40], [41], [59], [61], [43], [45], [42], [60], [33]]
def value (w : List UInt8) : Nat := w.foldl (fun n b => 10 * n + (b.toNat - 48)) 0
/-- a decimal number of at most five digits, without a leading zero, below 65536 -/
def numOK (w : List UInt8) : Bool := w.length ≤ 5 && !(w.head? == some 48 && decide (1 < w.length)) && value w < 65536

structure Tok where
  k : Nat
  t : List UInt8
  n : Nat
deriving DecidableEq, Inhabited

/-- the token at the start of a text that starts with no blank -/
def next : List UInt8 → Option Tok
  | [] => none
  | c :: s =>
    if letter c then if 12 < ((c :: s).takeWhile word).length then none else some ⟨1, (c :: s).takeWhile word, 0⟩
    else if digit c then
      if numOK ((c :: s).takeWhile digit) && !((c :: s).dropWhile digit).head?.any word then some ⟨2, (c :: s).takeWhile digit, value ((c :: s).takeWhile digit)⟩ else none
    else (ops.find? fun w => w.isPrefixOf (c :: s)).map fun w => ⟨3, w, 0⟩

/-- all tokens of a text; 'none': a syntax error -/
def lexF : Nat → List UInt8 → Option (List Tok)
  | 0, _ => some []
  | f + 1, s => match s.dropWhile blank with
    | [] => some []
    | c :: r => match next (c :: r) with
      | none => none
      | some t => (lexF f ((c :: r).drop t.t.length)).map (t :: ·)
def lex (s : List UInt8) : Option (List Tok) := lexF (s.length + 1) s

/-- the nesting depth of a list of tokens -/
def depthF : List Tok → Int → Int → Int
  | [], _, most => most
  | x :: l, n, most =>
    let n := if x.k = 3 then (if x.t = [40] then n + 1 else if x.t = [41] then n - 1 else n) else n
    depthF l n (max most n)
def depth (l : List Tok) : Int := depthF l 0 0

structure Nd where
  k : Nat
  n : Nat
  m : Nat
  side : Nat
  dg : List Nat
  of : List Nat
deriving DecidableEq, Inhabited
def zero16 : List Nat := List.replicate 16 0

def isT (l : List Tok) (k : Nat) (t : List UInt8) : Bool := match l with
  | [] => false
  | x :: _ => x.k == k && (t == [] || x.t == t)
abbrev R (α : Type) := Option (α × List Tok)
def must (k : Nat) (t : List UInt8) (l : List Tok) : R Tok := match l with
  | [] => none
  | x :: r => if x.k == k && (t == [] || x.t == t) then some (x, r) else none
def compare (eq ge : Nat) (l : List Tok) : R Nd :=
  if isT l 3 [61, 61] then (must 2 [] l.tail).map fun x => (⟨eq, x.1.n, 0, 0, zero16, []⟩, x.2)
  else (must 3 [62, 61] l).bind fun y => (must 2 [] y.2).map fun x => (⟨ge, x.1.n, 0, 0, zero16, []⟩, x.2)
def hexd (b : UInt8) : Option Nat := if 48 ≤ b && b ≤ 57 then some (b.toNat - 48) else if 97 ≤ b && b ≤ 102 then some (b.toNat - 87) else none
/-- the four bytes that a word of a digest spells -/
def word4 : List UInt8 → Option (List Nat)
  | [x, a, b, c, d, e, f, g, h] => if x = 120 then
      (hexd a).bind fun a => (hexd b).bind fun b => (hexd c).bind fun c => (hexd d).bind fun d => (hexd e).bind fun e => (hexd f).bind fun f => (hexd g).bind fun g => (hexd h).map fun h => [16 * a + b, 16 * c + d, 16 * e + f, 16 * g + h] else none
  | _ => none
def digestF : Nat → List Tok → R (List Nat)
  | 0, l => some ([], l)
  | i + 1, l => (must 1 [] l).bind fun x => (word4 x.1.t).bind fun w => (digestF i x.2).map fun y => (w ++ y.1, y.2)
def str (s : String) : List UInt8 := s.toUTF8.data.toList
def atom (l : List Tok) : R Nd :=
  (must 1 [] l).bind fun x =>
    if x.1.t = str "any" then some (⟨1, 0, 0, 0, zero16, []⟩, x.2)
    else if x.1.t = str "version" then compare 2 3 x.2
    else if x.1.t = str "epoch" then compare 4 5 x.2
    else if x.1.t = str "stage" then (must 2 [] x.2).bind fun y => (must 1 (str "is") y.2).bind fun z => (digestF 4 z.2).map fun d => (⟨6, y.1.n, 0, 0, d.1, []⟩, d.2)
    else if x.1.t = str "point" then (must 2 [] x.2).bind fun y => (must 2 [] y.2).bind fun z => (must 1 (str "took") z.2).bind fun v =>
      if isT v.2 1 (str "true") then some (⟨7, y.1.n, z.1.n, 1, zero16, []⟩, v.2.tail)
      else (must 1 (str "false") v.2).map fun u => (⟨7, y.1.n, z.1.n, 2, zero16, []⟩, u.2)
    else none

/-- the parser. Level 0: operands of '||'; 1: operands of '&&'; 2: one operand; 3, 4: what follows a first operand at level 0, 1. Outer 'none': no fuel left. -/
def P : Nat → Nat → List Tok → List Nd → Option (Option (List Tok × List Nd))
  | 0, _, _, _ => none
  | f + 1, lv, l, o =>
    if lv = 0 then match P f 1 l o with
      | some (some x) => P f 3 x.1 x.2
      | r => r
    else if lv = 1 then match P f 2 l o with
      | some (some x) => P f 4 x.1 x.2
      | r => r
    else if lv = 3 then
      if isT l 3 [124, 124] then match P f 1 l.tail o with
        | some (some x) => P f 3 x.1 (x.2 ++ [⟨10, 0, 0, 0, zero16, [o.length - 1, x.2.length - 1]⟩])
        | r => r
      else some (some (l, o))
    else if lv = 4 then
      if isT l 3 [38, 38] then match P f 2 l.tail o with
        | some (some x) => P f 4 x.1 (x.2 ++ [⟨9, 0, 0, 0, zero16, [o.length - 1, x.2.length - 1]⟩])
        | r => r
      else some (some (l, o))
    else
      if isT l 3 [33] then match P f 2 l.tail o with
        | some (some x) => some (some (x.1, x.2 ++ [⟨8, 0, 0, 0, zero16, [x.2.length - 1]⟩]))
        | r => r
      else if isT l 3 [40] then match P f 0 l.tail o with
        | some (some x) => some ((must 3 [41] x.1).map fun y => (y.2, x.2))
        | r => r
      else some ((atom l).map fun x => (x.2, o ++ [x.1]))
def tree (l : List Tok) : Option (List Nd) := match P (6 * l.length + 6) 0 l [] with
  | some (some ([], o)) => some o
  | _ => none
/-- 0: none; 2: a limit; 3: a syntax error -/
def parse (s : List UInt8) : List Nd × Nat :=
  if 1500 < s.length then ([], 2) else match lex s with
  | none => ([], 3)
  | some l => if 30 < depth l then ([], 2) else match tree l with
    | none => ([], 3)
    | some o => if 400 < o.length then ([], 2) else (o, 0)

/-! values: 1 true, 0 false, -1 unknown -/
structure Facts where
  version : Int
  epoch : Int
  stages : List (List Nat)
  points : List (List Int)
def truth (b : Bool) : Int := if b then 1 else 0
def neg (a : Int) : Int := if a < 0 then a else 1 - a
def conj (a b : Int) : Int := if a = 0 ∨ b = 0 then 0 else min a b
def at_ (r : List Int) (k : Nat) : Int := r.getD k 0
/-- the bit of an outcome that a side names (outcomes from -1 to 3, sides 1 and 2) -/
def hasSide (x : Int) (side : Nat) : Bool := x.toNat &&& side != 0
def took (n : Nd) (f : Facts) : Int :=
  if f.points.length ≤ n.n then 0 else if (f.points.getD n.n []).length ≤ n.m then 0
  else if at_ (f.points.getD n.n []) n.m = -1 then -1 else truth (hasSide (at_ (f.points.getD n.n []) n.m) n.side)
def evalNd (n : Nd) (f : Facts) (r : List Int) : Int := match n.k with
  | 1 => 1
  | 2 => truth (f.version = n.n)
  | 3 => truth (n.n ≤ f.version)
  | 4 => truth (f.epoch = n.n)
  | 5 => truth (n.n ≤ f.epoch)
  | 6 => truth (n.n < f.stages.length && f.stages.getD n.n [] == n.dg)
  | 7 => took n f
  | 8 => neg (at_ r (n.of.getD 0 0))
  | 9 => conj (at_ r (n.of.getD 0 0)) (at_ r (n.of.getD 1 0))
  | _ => neg (conj (neg (at_ r (n.of.getD 0 0))) (neg (at_ r (n.of.getD 1 0))))
def evalAll (o : List Nd) (f : Facts) : List Int := o.foldl (fun r n => r ++ [evalNd n f r]) []
def eval (o : List Nd) (f : Facts) : Int := (evalAll o f).getLast?.getD 0
end Po
end Go.Proofs.YtdeccekeknlnoaaGreatDoor

namespace Go.Proofs.YtdeccekeknlnoaaGreatDoor
namespace Po

theorem isT_len {l : List Tok} {k : Nat} {t : List UInt8} (h : isT l k t = true) : l.tail.length + 1 = l.length := by
  cases l with
  | nil => simp [isT] at h
  | cons x r => simp
theorem must_len {k : Nat} {t : List UInt8} {l r : List Tok} {x : Tok} (h : must k t l = some (x, r)) : r.length + 1 = l.length := by
  cases l with
  | nil => simp [must] at h
  | cons y r' =>
    simp only [must] at h
    split at h
    · simp at h; rw [h.2]; simp
    · simp at h
theorem compare_len {a b : Nat} {l r : List Tok} {x : Nd} (h : compare a b l = some (x, r)) : r.length < l.length := by
  unfold compare at h
  split at h
  · rename_i h0
    have := isT_len h0
    cases h1 : must 2 [] l.tail with
    | none => simp [h1] at h
    | some y => obtain ⟨y, r1⟩ := y; have := must_len h1; simp [h1] at h; rw [← h.2]; omega
  · cases h1 : must 3 [62, 61] l with
    | none => simp [h1] at h
    | some y =>
      obtain ⟨y, r1⟩ := y
      have := must_len h1
      simp only [h1, Option.bind_some] at h
      cases h2 : must 2 [] r1 with
      | none => simp [h2] at h
      | some z => obtain ⟨z, r2⟩ := z; have := must_len h2; simp [h2] at h; rw [← h.2]; omega
theorem digestF_len : ∀ (i : Nat) {l r : List Tok} {d : List Nat}, digestF i l = some (d, r) → r.length ≤ l.length
  | 0, l, r, d, h => by simp [digestF] at h; rw [h.2]; exact Nat.le_refl _
  | i + 1, l, r, d, h => by
    simp only [digestF] at h
    cases h1 : must 1 [] l with
    | none => simp [h1] at h
    | some x =>
      obtain ⟨x, r1⟩ := x
      have := must_len h1
      simp only [h1, Option.bind_some] at h
      cases h2 : word4 x.t with
      | none => simp [h2] at h
      | some w =>
        simp only [h2, Option.bind_some] at h
        cases h3 : digestF i r1 with
        | none => simp [h3] at h
        | some y =>
          obtain ⟨y, r2⟩ := y
          have := digestF_len i h3
          simp [h3] at h
          rw [← h.2]; omega
theorem atom_len {l r : List Tok} {x : Nd} (h : atom l = some (x, r)) : r.length < l.length := by
  unfold atom at h
  cases h1 : must 1 [] l with
  | none => simp [h1] at h
  | some a =>
    obtain ⟨a, l1⟩ := a
    have e1 := must_len h1
    simp only [h1, Option.bind_some] at h
    split at h
    · simp at h; rw [← h.2]; omega
    · split at h
      · have := compare_len h; omega
      · split at h
        · have := compare_len h; omega
        · split at h
          · cases h2 : must 2 [] l1 with
            | none => simp [h2] at h
            | some b =>
              obtain ⟨b, l2⟩ := b
              have e2 := must_len h2
              simp only [h2, Option.bind_some] at h
              cases h3 : must 1 (str "is") l2 with
              | none => simp [h3] at h
              | some c =>
                obtain ⟨c, l3⟩ := c
                have e3 := must_len h3
                simp only [h3, Option.bind_some] at h
                cases h4 : digestF 4 l3 with
                | none => simp [h4] at h
                | some d =>
                  obtain ⟨d, l4⟩ := d
                  have e4 := digestF_len 4 h4
                  simp [h4] at h
                  rw [← h.2]; omega
          · split at h
            · cases h2 : must 2 [] l1 with
              | none => simp [h2] at h
              | some b =>
                obtain ⟨b, l2⟩ := b
                have e2 := must_len h2
                simp only [h2, Option.bind_some] at h
                cases h3 : must 2 [] l2 with
                | none => simp [h3] at h
                | some c =>
                  obtain ⟨c, l3⟩ := c
                  have e3 := must_len h3
                  simp only [h3, Option.bind_some] at h
                  cases h4 : must 1 (str "took") l3 with
                  | none => simp [h4] at h
                  | some d =>
                    obtain ⟨d, l4⟩ := d
                    have e4 := must_len h4
                    simp only [h4, Option.bind_some] at h
                    split at h
                    · rename_i h5
                      have := isT_len h5
                      simp at h
                      rw [← h.2]; simp; omega
                    · cases h6 : must 1 (str "false") l4 with
                      | none => simp [h6] at h
                      | some u => obtain ⟨u, l5⟩ := u; have := must_len h6; simp [h6] at h; rw [← h.2]; omega
            · simp at h

def bar (lv : Nat) : Nat := if lv = 0 then 3 else if lv = 1 then 2 else 1
/-- what a run of the parser leaves -/
theorem P_len : ∀ (f lv : Nat) (l : List Tok) (o : List Nd) (l' : List Tok) (o' : List Nd), P f lv l o = some (some (l', o')) → if lv = 3 ∨ lv = 4 then l'.length ≤ l.length else l'.length < l.length
  | 0, _, _, _, _, _, h => by simp [P] at h
  | f + 1, lv, l, o, l', o', h => by
    have I := P_len f
    simp only [P] at h
    by_cases c0 : lv = 0
    · subst c0
      simp only [if_true] at h
      cases h1 : P f 1 l o with
      | none => simp [h1] at h
      | some r => cases r with
        | none => simp [h1] at h
        | some x =>
          obtain ⟨x1, x2⟩ := x
          simp only [h1] at h
          have a := I _ _ _ _ _ h1
          have b := I _ _ _ _ _ h
          simp at a b ⊢
          omega
    · simp only [if_neg c0] at h
      by_cases c1 : lv = 1
      · subst c1
        simp only [if_true] at h
        cases h1 : P f 2 l o with
        | none => simp [h1] at h
        | some r => cases r with
          | none => simp [h1] at h
          | some x =>
            obtain ⟨x1, x2⟩ := x
            simp only [h1] at h
            have a := I _ _ _ _ _ h1
            have b := I _ _ _ _ _ h
            simp at a b ⊢
            omega
      · simp only [if_neg c1] at h
        by_cases c3 : lv = 3
        · subst c3
          simp only [if_true] at h
          split at h
          · rename_i ht
            have := isT_len ht
            cases h1 : P f 1 l.tail o with
            | none => simp [h1] at h
            | some r => cases r with
              | none => simp [h1] at h
              | some x =>
                obtain ⟨x1, x2⟩ := x
                simp only [h1] at h
                have a := I _ _ _ _ _ h1
                have b := I _ _ _ _ _ h
                simp at a b ⊢
                omega
          · simp at h ⊢
            rw [h.1]; exact Nat.le_refl _
        · simp only [if_neg c3] at h
          by_cases c4 : lv = 4
          · subst c4
            simp only [if_true] at h
            split at h
            · rename_i ht
              have := isT_len ht
              cases h1 : P f 2 l.tail o with
              | none => simp [h1] at h
              | some r => cases r with
                | none => simp [h1] at h
                | some x =>
                  obtain ⟨x1, x2⟩ := x
                  simp only [h1] at h
                  have a := I _ _ _ _ _ h1
                  have b := I _ _ _ _ _ h
                  simp at a b ⊢
                  omega
            · simp at h ⊢
              rw [h.1]; exact Nat.le_refl _
          · simp only [if_neg c4] at h
            rw [if_neg (by omega)]
            split at h
            · rename_i ht
              have := isT_len ht
              cases h1 : P f 2 l.tail o with
              | none => simp [h1] at h
              | some r => cases r with
                | none => simp [h1] at h
                | some x =>
                  obtain ⟨x1, x2⟩ := x
                  simp only [h1] at h
                  have a := I _ _ _ _ _ h1
                  simp at a h
                  rw [← h.1]; omega
            · split at h
              · rename_i ht
                have := isT_len ht
                cases h1 : P f 0 l.tail o with
                | none => simp [h1] at h
                | some r => cases r with
                  | none => simp [h1] at h
                  | some x =>
                    obtain ⟨x1, x2⟩ := x
                    simp only [h1] at h
                    have a := I _ _ _ _ _ h1
                    cases h2 : must 3 [41] x1 with
                    | none => simp [h2] at h
                    | some y => obtain ⟨y, r2⟩ := y; have := must_len h2; simp [h2] at h; simp at a; rw [← h.1]; omega
              · cases h2 : atom l with
                | none => simp [h2] at h
                | some y => obtain ⟨y, r2⟩ := y; have := atom_len h2; simp [h2] at h; rw [← h.1]; exact this
/-- fuel enough -/
theorem P_total : ∀ (f lv : Nat) (l : List Tok) (o : List Nd), 6 * l.length + bar lv ≤ f → P f lv l o ≠ none
  | 0, lv, l, o, h => by unfold bar at h; split at h <;> first | omega | (split at h <;> omega)
  | f + 1, lv, l, o, h => by
    have I := P_total f
    simp only [P]
    by_cases c0 : lv = 0
    · subst c0
      simp only [if_true]
      have a := I 1 l o (by simp [bar] at h ⊢; omega)
      cases h1 : P f 1 l o with
      | none => exact absurd h1 a
      | some r => cases r with
        | none => simp
        | some x =>
          have b := P_len _ _ _ _ _ _ h1
          simp at b
          exact I 3 _ _ (by simp [bar] at h ⊢; omega)
    · simp only [if_neg c0]
      by_cases c1 : lv = 1
      · subst c1
        simp only [if_true]
        have a := I 2 l o (by simp [bar] at h ⊢; omega)
        cases h1 : P f 2 l o with
        | none => exact absurd h1 a
        | some r => cases r with
          | none => simp
          | some x =>
            have b := P_len _ _ _ _ _ _ h1
            simp at b
            exact I 4 _ _ (by simp [bar] at h ⊢; omega)
      · simp only [if_neg c1]
        have hb : bar lv = 1 := by simp [bar, c0, c1]
        rw [hb] at h
        by_cases c3 : lv = 3
        · subst c3
          simp only [if_true]
          split
          · rename_i ht
            have := isT_len ht
            have a := I 1 l.tail o (by simp only [bar]; simp; omega)
            cases h1 : P f 1 l.tail o with
            | none => exact absurd h1 a
            | some r => cases r with
              | none => simp
              | some x =>
                have b := P_len _ _ _ _ _ _ h1
                simp at b
                exact I 3 _ _ (by simp [bar]; omega)
          · simp
        · simp only [if_neg c3]
          by_cases c4 : lv = 4
          · subst c4
            simp only [if_true]
            split
            · rename_i ht
              have := isT_len ht
              have a := I 2 l.tail o (by simp only [bar]; simp; omega)
              cases h1 : P f 2 l.tail o with
              | none => exact absurd h1 a
              | some r => cases r with
                | none => simp
                | some x =>
                  have b := P_len _ _ _ _ _ _ h1
                  simp at b
                  exact I 4 _ _ (by simp [bar]; omega)
            · simp
          · simp only [if_neg c4]
            split
            · rename_i ht
              have := isT_len ht
              have a := I 2 l.tail o (by simp only [bar]; simp; omega)
              cases h1 : P f 2 l.tail o with
              | none => exact absurd h1 a
              | some r => cases r <;> simp
            · split
              · rename_i ht
                have := isT_len ht
                have a := I 0 l.tail o (by simp only [bar]; simp; omega)
                cases h1 : P f 0 l.tail o with
                | none => exact absurd h1 a
                | some r => cases r <;> simp
              · simp
end Po
end Go.Proofs.YtdeccekeknlnoaaGreatDoor

namespace Go.Proofs.YtdeccekeknlnoaaGreatDoor
namespace Po

/-- a node that stands at place i -/
structure OkNd (i : Nat) (x : Nd) : Prop where
  lo : 1 ≤ x.k
  hi : x.k ≤ 10
  nb : x.n < 65536
  mb : x.m < 65536
  side : x.k = 7 → x.side = 1 ∨ x.side = 2
  side0 : x.side ≤ 2
  dg : x.dg.length = 16
  dgb : ∀ b ∈ x.dg, b < 256
  leaf : x.k < 8 → x.of = []
  one : x.k = 8 → ∃ a, x.of = [a] ∧ a < i
  two : 9 ≤ x.k → ∃ a b, x.of = [a, b] ∧ a < i ∧ b < i
def OkAll (o : List Nd) : Prop := ∀ i n, o[i]? = some n → OkNd i n
def OkToks (l : List Tok) : Prop := ∀ x ∈ l, x.n < 65536
theorem OkAll.nil : OkAll [] := by intro i n h; simp at h
theorem OkAll.snoc {o : List Nd} {n : Nd} (h : OkAll o) (hn : OkNd o.length n) : OkAll (o ++ [n]) := by
  intro i x hx
  by_cases c : i < o.length
  · rw [List.getElem?_append_left c] at hx; exact h i x hx
  · rw [List.getElem?_append_right (by omega)] at hx
    by_cases e : i = o.length
    · subst e; simp at hx; subst hx; exact hn
    · rw [List.getElem?_eq_none (by simp; omega)] at hx; cases hx
theorem OkToks.tail {l : List Tok} (h : OkToks l) : OkToks l.tail := fun x hx => h x (List.mem_of_mem_tail hx)
theorem must_ok {k : Nat} {t : List UInt8} {l r : List Tok} {x : Tok} (hl : OkToks l) (h : must k t l = some (x, r)) : OkToks r ∧ x.n < 65536 := by
  cases l with
  | nil => simp [must] at h
  | cons y r' =>
    simp only [must] at h
    split at h
    · simp at h; obtain ⟨rfl, rfl⟩ := h; exact ⟨fun z hz => hl z (by simp [hz]), hl _ (by simp)⟩
    · simp at h
theorem OkNd.leafI {i k n m s : Nat} {d : List Nat} (hk : 1 ≤ k) (hk2 : k < 8) (hn : n < 65536) (hm : m < 65536) (hs : k = 7 → s = 1 ∨ s = 2) (hs0 : s ≤ 2) (hd : d.length = 16) (hb : ∀ x ∈ d, x < 256) : OkNd i ⟨k, n, m, s, d, []⟩ :=
  ⟨hk, by simp only; omega, hn, hm, hs, hs0, hd, hb, fun _ => rfl, fun h => by simp only at h; omega, fun h => by simp only at h; omega⟩
theorem zero16_len : zero16.length = 16 := rfl
theorem zero16_lt : ∀ x ∈ zero16, x < 256 := by decide
theorem compare_ok {a b : Nat} {l r : List Tok} {x : Nd} {i : Nat} (ha : 1 ≤ a ∧ a < 7) (hb : 1 ≤ b ∧ b < 7) (hl : OkToks l) (h : compare a b l = some (x, r)) : OkToks r ∧ OkNd i x := by
  unfold compare at h
  split at h
  · cases h1 : must 2 [] l.tail with
    | none => simp [h1] at h
    | some y =>
      obtain ⟨y, r1⟩ := y
      have := must_ok hl.tail h1
      simp [h1] at h; obtain ⟨rfl, rfl⟩ := h
      exact ⟨this.1, .leafI ha.1 (by omega) this.2 (by omega) (by omega) (by omega) rfl zero16_lt⟩
  · cases h1 : must 3 [62, 61] l with
    | none => simp [h1] at h
    | some y =>
      obtain ⟨y, r1⟩ := y
      have t1 := must_ok hl h1
      simp only [h1, Option.bind_some] at h
      cases h2 : must 2 [] r1 with
      | none => simp [h2] at h
      | some z =>
        obtain ⟨z, r2⟩ := z
        have := must_ok t1.1 h2
        simp [h2] at h; obtain ⟨rfl, rfl⟩ := h
        exact ⟨this.1, .leafI hb.1 (by omega) this.2 (by omega) (by omega) (by omega) rfl zero16_lt⟩
theorem hexd_lt {b : UInt8} {n : Nat} (h : hexd b = some n) : n < 16 := by
  unfold hexd at h
  split at h
  · rename_i c; simp at c h; have := UInt8.le_iff_toNat_le.1 c.2; simp at this; omega
  · split at h
    · rename_i c; simp at c h; have := UInt8.le_iff_toNat_le.1 c.2; simp at this; omega
    · cases h
theorem word4_ok {w : List UInt8} {d : List Nat} (h : word4 w = some d) : d.length = 4 ∧ ∀ x ∈ d, x < 256 := by
  unfold word4 at h
  split at h
  · split at h
    · simp only [Option.bind_eq_some_iff, Option.map_eq_some_iff] at h
      obtain ⟨a, ha, b, hb, c, hc, e, he, f, hf, g, hg, i, hi, j, hj, rfl⟩ := h
      have := hexd_lt ha; have := hexd_lt hb; have := hexd_lt hc; have := hexd_lt he
      have := hexd_lt hf; have := hexd_lt hg; have := hexd_lt hi; have := hexd_lt hj
      refine ⟨rfl, fun x hx => ?_⟩
      simp at hx
      omega
    · cases h
  · cases h
theorem digestF_ok : ∀ (i : Nat) {l r : List Tok} {d : List Nat}, OkToks l → digestF i l = some (d, r) → OkToks r ∧ d.length = 4 * i ∧ ∀ x ∈ d, x < 256
  | 0, l, r, d, hl, h => by simp [digestF] at h; obtain ⟨rfl, rfl⟩ := h; exact ⟨hl, rfl, by simp⟩
  | i + 1, l, r, d, hl, h => by
    simp only [digestF] at h
    cases h1 : must 1 [] l with
    | none => simp [h1] at h
    | some x =>
      obtain ⟨x, r1⟩ := x
      have t1 := must_ok hl h1
      simp only [h1, Option.bind_some] at h
      cases h2 : word4 x.t with
      | none => simp [h2] at h
      | some w =>
        have t2 := word4_ok h2
        simp only [h2, Option.bind_some] at h
        cases h3 : digestF i r1 with
        | none => simp [h3] at h
        | some y =>
          obtain ⟨y, r2⟩ := y
          have t3 := digestF_ok i t1.1 h3
          simp [h3] at h
          obtain ⟨rfl, rfl⟩ := h
          refine ⟨t3.1, by simp [t2.1, t3.2.1]; omega, fun x hx => ?_⟩
          rcases List.mem_append.1 hx with h | h
          · exact t2.2 x h
          · exact t3.2.2 x h
theorem atom_ok {l r : List Tok} {x : Nd} {i : Nat} (hl : OkToks l) (h : atom l = some (x, r)) : OkToks r ∧ OkNd i x := by
  unfold atom at h
  cases h1 : must 1 [] l with
  | none => simp [h1] at h
  | some a =>
    obtain ⟨a, l1⟩ := a
    have e1 := must_ok hl h1
    simp only [h1, Option.bind_some] at h
    split at h
    · simp at h; obtain ⟨rfl, rfl⟩ := h; exact ⟨e1.1, .leafI (by omega) (by omega) (by omega) (by omega) (by omega) (by omega) rfl zero16_lt⟩
    · split at h
      · exact compare_ok ⟨by omega, by omega⟩ ⟨by omega, by omega⟩ e1.1 h
      · split at h
        · exact compare_ok ⟨by omega, by omega⟩ ⟨by omega, by omega⟩ e1.1 h
        · split at h
          · cases h2 : must 2 [] l1 with
            | none => simp [h2] at h
            | some b =>
              obtain ⟨b, l2⟩ := b
              have e2 := must_ok e1.1 h2
              simp only [h2, Option.bind_some] at h
              cases h3 : must 1 (str "is") l2 with
              | none => simp [h3] at h
              | some c =>
                obtain ⟨c, l3⟩ := c
                have e3 := must_ok e2.1 h3
                simp only [h3, Option.bind_some] at h
                cases h4 : digestF 4 l3 with
                | none => simp [h4] at h
                | some d =>
                  obtain ⟨d, l4⟩ := d
                  have e4 := digestF_ok 4 e3.1 h4
                  simp [h4] at h
                  obtain ⟨rfl, rfl⟩ := h
                  exact ⟨e4.1, .leafI (by omega) (by omega) e2.2 (by omega) (by omega) (by omega) e4.2.1 e4.2.2⟩
          · split at h
            · cases h2 : must 2 [] l1 with
              | none => simp [h2] at h
              | some b =>
                obtain ⟨b, l2⟩ := b
                have e2 := must_ok e1.1 h2
                simp only [h2, Option.bind_some] at h
                cases h3 : must 2 [] l2 with
                | none => simp [h3] at h
                | some c =>
                  obtain ⟨c, l3⟩ := c
                  have e3 := must_ok e2.1 h3
                  simp only [h3, Option.bind_some] at h
                  cases h4 : must 1 (str "took") l3 with
                  | none => simp [h4] at h
                  | some d =>
                    obtain ⟨d, l4⟩ := d
                    have e4 := must_ok e3.1 h4
                    simp only [h4, Option.bind_some] at h
                    split at h
                    · simp at h
                      obtain ⟨rfl, rfl⟩ := h
                      exact ⟨e4.1.tail, .leafI (by omega) (by omega) e2.2 e3.2 (by omega) (by omega) rfl zero16_lt⟩
                    · cases h6 : must 1 (str "false") l4 with
                      | none => simp [h6] at h
                      | some u =>
                        obtain ⟨u, l5⟩ := u
                        have e6 := must_ok e4.1 h6
                        simp [h6] at h
                        obtain ⟨rfl, rfl⟩ := h
                        exact ⟨e6.1, .leafI (by omega) (by omega) e2.2 e3.2 (by omega) (by omega) rfl zero16_lt⟩
            · simp at h
theorem OkNd.oneI {i a : Nat} (ha : a < i) : OkNd i ⟨8, 0, 0, 0, zero16, [a]⟩ :=
  ⟨by simp, by simp, by simp, by simp, by simp, by simp, rfl, zero16_lt, by simp, fun _ => ⟨a, rfl, ha⟩, by simp⟩
theorem OkNd.twoI {i a b k : Nat} (hk : k = 9 ∨ k = 10) (ha : a < i) (hb : b < i) : OkNd i ⟨k, 0, 0, 0, zero16, [a, b]⟩ :=
  ⟨by simp only; omega, by simp only; omega, by simp, by simp, fun h => by simp only at h; omega, by simp, rfl, zero16_lt, fun h => by simp only at h; omega, fun h => by simp only at h; omega, fun _ => ⟨a, b, rfl, ha, hb⟩⟩
/-- what the parser leaves: sound tokens, sound nodes; the elder nodes stand; at the levels of an operand at least one node more -/
theorem P_ok : ∀ (f lv : Nat) (l : List Tok) (o : List Nd) (l' : List Tok) (o' : List Nd), OkToks l → OkAll o → P f lv l o = some (some (l', o')) → OkToks l' ∧ OkAll o' ∧ (∃ e, o' = o ++ e) ∧ (lv ≠ 3 → lv ≠ 4 → o.length < o'.length)
  | 0, _, _, _, _, _, _, _, h => by simp [P] at h
  | f + 1, lv, l, o, l', o', hl, ho, h => by
    have I := P_ok f
    simp only [P] at h
    by_cases c0 : lv = 0
    · subst c0
      simp only [if_true] at h
      cases h1 : P f 1 l o with
      | none => simp [h1] at h
      | some r => cases r with
        | none => simp [h1] at h
        | some x =>
          obtain ⟨x1, x2⟩ := x
          simp only [h1] at h
          obtain ⟨a1, a2, ⟨e, rfl⟩, a4⟩ := I _ _ _ _ _ hl ho h1
          obtain ⟨b1, b2, ⟨g, rfl⟩, -⟩ := I _ _ _ _ _ a1 a2 h
          have := a4 (by omega) (by omega)
          exact ⟨b1, b2, ⟨e ++ g, by simp⟩, fun _ _ => by simp at this ⊢; omega⟩
    · simp only [if_neg c0] at h
      by_cases c1 : lv = 1
      · subst c1
        simp only [if_true] at h
        cases h1 : P f 2 l o with
        | none => simp [h1] at h
        | some r => cases r with
          | none => simp [h1] at h
          | some x =>
            obtain ⟨x1, x2⟩ := x
            simp only [h1] at h
            obtain ⟨a1, a2, ⟨e, rfl⟩, a4⟩ := I _ _ _ _ _ hl ho h1
            obtain ⟨b1, b2, ⟨g, rfl⟩, -⟩ := I _ _ _ _ _ a1 a2 h
            have := a4 (by omega) (by omega)
            exact ⟨b1, b2, ⟨e ++ g, by simp⟩, fun _ _ => by simp at this ⊢; omega⟩
      · simp only [if_neg c1] at h
        by_cases c3 : lv = 3
        · subst c3
          simp only [if_true] at h
          split at h
          · cases h1 : P f 1 l.tail o with
            | none => simp [h1] at h
            | some r => cases r with
              | none => simp [h1] at h
              | some x =>
                obtain ⟨x1, x2⟩ := x
                simp only [h1] at h
                obtain ⟨a1, a2, ⟨e, rfl⟩, a4⟩ := I _ _ _ _ _ hl.tail ho h1
                have := a4 (by omega) (by omega)
                obtain ⟨b1, b2, ⟨g, rfl⟩, -⟩ := I _ _ _ _ _ a1 (a2.snoc (OkNd.twoI (.inr rfl) (by omega) (by omega))) h
                exact ⟨b1, b2, ⟨_, by simp only [List.append_assoc]; rfl⟩, fun h _ => absurd rfl h⟩
          · simp at h; obtain ⟨rfl, rfl⟩ := h
            exact ⟨hl, ho, ⟨[], by simp⟩, fun h _ => absurd rfl h⟩
        · simp only [if_neg c3] at h
          by_cases c4 : lv = 4
          · subst c4
            simp only [if_true] at h
            split at h
            · cases h1 : P f 2 l.tail o with
              | none => simp [h1] at h
              | some r => cases r with
                | none => simp [h1] at h
                | some x =>
                  obtain ⟨x1, x2⟩ := x
                  simp only [h1] at h
                  obtain ⟨a1, a2, ⟨e, rfl⟩, a4⟩ := I _ _ _ _ _ hl.tail ho h1
                  have := a4 (by omega) (by omega)
                  obtain ⟨b1, b2, ⟨g, rfl⟩, -⟩ := I _ _ _ _ _ a1 (a2.snoc (OkNd.twoI (.inl rfl) (by omega) (by omega))) h
                  exact ⟨b1, b2, ⟨_, by simp only [List.append_assoc]; rfl⟩, fun _ h => absurd rfl h⟩
            · simp at h; obtain ⟨rfl, rfl⟩ := h
              exact ⟨hl, ho, ⟨[], by simp⟩, fun _ h => absurd rfl h⟩
          · simp only [if_neg c4] at h
            split at h
            · cases h1 : P f 2 l.tail o with
              | none => simp [h1] at h
              | some r => cases r with
                | none => simp [h1] at h
                | some x =>
                  obtain ⟨x1, x2⟩ := x
                  simp only [h1] at h
                  obtain ⟨a1, a2, ⟨e, rfl⟩, a4⟩ := I _ _ _ _ _ hl.tail ho h1
                  have := a4 (by omega) (by omega)
                  simp at h
                  obtain ⟨rfl, rfl⟩ := h
                  exact ⟨a1, by rw [← List.append_assoc]; exact a2.snoc (OkNd.oneI (by simp at this ⊢; omega)), ⟨_, rfl⟩, fun _ _ => by simp⟩
            · split at h
              · cases h1 : P f 0 l.tail o with
                | none => simp [h1] at h
                | some r => cases r with
                  | none => simp [h1] at h
                  | some x =>
                    obtain ⟨x1, x2⟩ := x
                    simp only [h1] at h
                    obtain ⟨a1, a2, ⟨e, rfl⟩, a4⟩ := I _ _ _ _ _ hl.tail ho h1
                    have := a4 (by omega) (by omega)
                    cases h2 : must 3 [41] x1 with
                    | none => simp [h2] at h
                    | some y =>
                      obtain ⟨y, r2⟩ := y
                      have t := must_ok a1 h2
                      simp [h2] at h; obtain ⟨rfl, rfl⟩ := h
                      exact ⟨t.1, a2, ⟨e, rfl⟩, fun _ _ => this⟩
              · cases h2 : atom l with
                | none => simp [h2] at h
                | some y =>
                  obtain ⟨y, r2⟩ := y
                  have t := atom_ok (i := o.length) hl h2
                  simp [h2] at h; obtain ⟨rfl, rfl⟩ := h
                  exact ⟨t.1, ho.snoc t.2, ⟨_, rfl⟩, fun _ _ => by simp⟩
end Po
end Go.Proofs.YtdeccekeknlnoaaGreatDoor

namespace Go.Proofs.YtdeccekeknlnoaaGreatDoor
namespace Po

def Val (a : Int) : Prop := a = -1 ∨ a = 0 ∨ a = 1
/-- a is not known, or is b -/
def Le (a b : Int) : Prop := a = -1 ∨ a = b
theorem Val.truth (b : Bool) : Val (truth b) := by cases b <;> simp [Po.truth, Val]
theorem Val.neg {a : Int} (h : Val a) : Val (neg a) := by rcases h with rfl | rfl | rfl <;> simp [Po.neg, Val]
theorem Val.conj {a b : Int} (ha : Val a) (hb : Val b) : Val (conj a b) := by
  rcases ha with rfl | rfl | rfl <;> rcases hb with rfl | rfl | rfl <;> simp [Po.conj, Val] <;> omega
theorem Le.neg {a b : Int} (h : Le a b) : Le (neg a) (neg b) := by
  rcases h with rfl | rfl
  · exact .inl rfl
  · exact .inr rfl
theorem Le.conj {a b c d : Int} (ha : Val a) (hb : Val b) (h : Le a c) (g : Le b d) : Le (conj a b) (conj c d) := by
  rcases ha with rfl | rfl | rfl <;> rcases hb with rfl | rfl | rfl <;> rcases h with h | rfl <;> rcases g with g | rfl <;> simp [Po.conj, Le] at * <;> omega
theorem neg_neg' (a : Int) (h : Val a) : neg (neg a) = a := by rcases h with rfl | rfl | rfl <;> rfl
theorem conj_comm' (a b : Int) (ha : Val a) (hb : Val b) : conj a b = conj b a := by
  rcases ha with rfl | rfl | rfl <;> rcases hb with rfl | rfl | rfl <;> rfl

theorem snoc_ind {α : Type} {p : List α → Prop} (nil : p []) (append_singleton : ∀ o n, p o → p (o ++ [n])) (l : List α) : p l := by
  have h : ∀ r : List α, p r.reverse := fun r => by
    induction r with
    | nil => exact nil
    | cons a r ih => rw [List.reverse_cons]; exact append_singleton _ _ ih
  simpa using h l.reverse
theorem evalAll_nil (f : Facts) : evalAll [] f = [] := rfl
theorem evalAll_snoc (o : List Nd) (n : Nd) (f : Facts) : evalAll (o ++ [n]) f = evalAll o f ++ [evalNd n f (evalAll o f)] := by simp [evalAll, List.foldl_append]
theorem evalAll_len (o : List Nd) (f : Facts) : (evalAll o f).length = o.length := by
  induction o using snoc_ind with
  | nil => rfl
  | append_singleton o n ih => rw [evalAll_snoc]; simp [ih]
theorem at_snoc (r : List Int) (v : Int) (k : Nat) : at_ (r ++ [v]) k = if k < r.length then at_ r k else if k = r.length then v else 0 := by
  unfold at_
  by_cases h : k < r.length
  · rw [if_pos h, List.getD_eq_getElem?_getD, List.getD_eq_getElem?_getD, List.getElem?_append_left h]
  · rw [if_neg h]
    by_cases e : k = r.length
    · subst e; simp
    · rw [if_neg e, List.getD_eq_getElem?_getD, List.getElem?_eq_none (by simp; omega)]; rfl
theorem took_val (n : Nd) (f : Facts) : Val (took n f) := by
  unfold took
  split
  · simp [Val]
  · split
    · simp [Val]
    · split
      · simp [Val]
      · exact Val.truth _
theorem evalNd_val (n : Nd) (f : Facts) (r : List Int) (h : ∀ k, Val (at_ r k)) : Val (evalNd n f r) := by
  unfold evalNd
  split
  all_goals first
    | exact Val.truth _
    | exact took_val _ _
    | exact (h _).neg
    | exact (h _).conj (h _)
    | exact ((h _).neg.conj (h _).neg).neg
    | simp [Val]
theorem evalAll_val (o : List Nd) (f : Facts) : ∀ k, Val (at_ (evalAll o f) k) := by
  induction o using snoc_ind with
  | nil => intro k; simp [evalAll, at_, Val]
  | append_singleton o n ih =>
    intro k
    rw [evalAll_snoc, at_snoc]
    split
    · exact ih k
    · split
      · exact evalNd_val n f _ ih
      · simp [Val]
theorem eval_at (o : List Nd) (f : Facts) : eval o f = at_ (evalAll o f) (o.length - 1) := by
  unfold eval at_
  rw [List.getLast?_eq_getElem?, evalAll_len, List.getD_eq_getElem?_getD]
theorem eval_val (o : List Nd) (f : Facts) : Val (eval o f) := by rw [eval_at]; exact evalAll_val o f _

/-- f agrees with g wherever g is known -/
structure Refines (f g : Facts) : Prop where
  v : f.version = g.version
  e : f.epoch = g.epoch
  s : f.stages = g.stages
  l : f.points.length = g.points.length
  r : ∀ i, (f.points.getD i []).length = (g.points.getD i []).length
  p : ∀ i k, at_ (g.points.getD i []) k = -1 ∨ at_ (f.points.getD i []) k = at_ (g.points.getD i []) k
theorem took_le {f g : Facts} (h : Refines f g) (n : Nd) : Le (took n g) (took n f) := by
  unfold took
  rw [h.l, h.r n.n]
  split
  · exact .inr rfl
  · split
    · exact .inr rfl
    · rcases h.p n.n n.m with e | e
      · rw [if_pos e]; exact .inl rfl
      · rw [e]; exact .inr rfl
theorem evalNd_le {f g : Facts} (h : Refines f g) (n : Nd) (r s : List Int) (hr : ∀ k, Val (at_ s k)) (hl : ∀ k, Le (at_ s k) (at_ r k)) : Le (evalNd n g s) (evalNd n f r) := by
  unfold evalNd
  rw [h.v, h.e, h.s]
  split
  all_goals first
    | exact .inr rfl
    | exact took_le h _
    | exact (hl _).neg
    | exact Le.conj (hr _) (hr _) (hl _) (hl _)
    | exact (Le.conj (hr _).neg (hr _).neg (hl _).neg (hl _).neg).neg
theorem evalAll_le {f g : Facts} (h : Refines f g) (o : List Nd) : ∀ k, Le (at_ (evalAll o g) k) (at_ (evalAll o f) k) := by
  induction o using snoc_ind with
  | nil => intro k; exact .inr rfl
  | append_singleton o n ih =>
    intro k
    rw [evalAll_snoc, evalAll_snoc, at_snoc, at_snoc, evalAll_len, evalAll_len]
    split
    · exact ih k
    · split
      · exact evalNd_le h n _ _ (evalAll_val o g) ih
      · exact .inr rfl
theorem eval_le {f g : Facts} (h : Refines f g) (o : List Nd) : Le (eval o g) (eval o f) := by rw [eval_at, eval_at]; exact evalAll_le h o _

/-- no outcome is unknown -/
def Known (f : Facts) : Prop := ∀ i k, at_ (f.points.getD i []) k ≠ -1
def Bit (a : Int) : Prop := a = 0 ∨ a = 1
theorem evalNd_bit {f : Facts} (h : Known f) (n : Nd) (r : List Int) (hr : ∀ k, Bit (at_ r k)) : Bit (evalNd n f r) := by
  have ht : ∀ b, Bit (truth b) := fun b => by cases b <;> simp [truth, Bit]
  have hn : ∀ {a}, Bit a → Bit (neg a) := fun {a} h => by rcases h with rfl | rfl <;> simp [neg, Bit]
  have hc : ∀ {a b}, Bit a → Bit b → Bit (conj a b) := fun {a b} h g => by rcases h with rfl | rfl <;> rcases g with rfl | rfl <;> simp [conj, Bit]
  unfold evalNd
  split
  all_goals first
    | exact ht _
    | exact hn (hr _)
    | exact hc (hr _) (hr _)
    | exact hn (hc (hn (hr _)) (hn (hr _)))
    | exact .inr rfl
    | (unfold took; split; exact .inl rfl; split; exact .inl rfl; rw [if_neg (h _ _)]; exact ht _)
theorem evalAll_bit {f : Facts} (h : Known f) (o : List Nd) : ∀ k, Bit (at_ (evalAll o f) k) := by
  induction o using snoc_ind with
  | nil => intro k; exact .inl rfl
  | append_singleton o n ih =>
    intro k
    rw [evalAll_snoc, at_snoc]
    split
    · exact ih k
    · split
      · exact evalNd_bit h n _ ih
      · exact .inl rfl
theorem eval_bit {f : Facts} (h : Known f) (o : List Nd) : Bit (eval o f) := by rw [eval_at]; exact evalAll_bit h o _

/-- g is f but for outcomes of points that no node of o names -/
structure Alike (o : List Nd) (f g : Facts) : Prop where
  v : f.version = g.version
  e : f.epoch = g.epoch
  s : f.stages = g.stages
  l : f.points.length = g.points.length
  r : ∀ i, (f.points.getD i []).length = (g.points.getD i []).length
  p : ∀ n ∈ o, n.k = 7 → at_ (f.points.getD n.n []) n.m = at_ (g.points.getD n.n []) n.m
theorem evalAll_alike {f g : Facts} : ∀ (o : List Nd), Alike o f g → evalAll o f = evalAll o g := by
  intro o
  induction o using snoc_ind with
  | nil => intro _; rfl
  | append_singleton o n ih =>
    intro h
    have h' : Alike o f g := ⟨h.v, h.e, h.s, h.l, h.r, fun x hx => h.p x (by simp [hx])⟩
    rw [evalAll_snoc, evalAll_snoc, ih h']
    congr 2
    unfold evalNd
    rw [h.v, h.e, h.s]
    split
    all_goals first
      | rfl
      | (rename_i hk; unfold took; rw [h.l, h.r n.n, h.p n (by simp) hk])
theorem eval_alike {o : List Nd} {f g : Facts} (h : Alike o f g) : eval o f = eval o g := by unfold eval; rw [evalAll_alike o h]
end Po
end Go.Proofs.YtdeccekeknlnoaaGreatDoor

namespace Go.Proofs.YtdeccekeknlnoaaGreatDoor
namespace Po
theorem evalNd_congr {i : Nat} {n : Nd} {f : Facts} {r s : List Int} (hn : OkNd i n) (h : ∀ j, j < i → at_ r j = at_ s j) : evalNd n f r = evalNd n f s := by
  by_cases c8 : n.k = 8
  · obtain ⟨a, ha, hi⟩ := hn.one c8
    unfold evalNd
    rw [c8, ha]
    simp [h a hi]
  · by_cases c9 : 9 ≤ n.k
    · obtain ⟨a, b, ha, hi, hj⟩ := hn.two c9
      have hk := hn.hi
      unfold evalNd
      have : n.k = 9 ∨ n.k = 10 := by omega
      rcases this with e | e <;> rw [e, ha] <;> simp [h a hi, h b hj]
    · have h1 := hn.lo
      have : n.k = 1 ∨ n.k = 2 ∨ n.k = 3 ∨ n.k = 4 ∨ n.k = 5 ∨ n.k = 6 ∨ n.k = 7 := by omega
      unfold evalNd
      rcases this with e | e | e | e | e | e | e <;> rw [e] <;> rfl
theorem evalAll_at {f : Facts} : ∀ (o : List Nd), OkAll o → ∀ (k : Nat) (n : Nd), o[k]? = some n → at_ (evalAll o f) k = evalNd n f (evalAll o f) := by
  intro o
  induction o using snoc_ind with
  | nil => intro _ k n h; simp at h
  | append_singleton o x ih =>
    intro ho k n h
    have ho' : OkAll o := fun i y hy => ho i y (by
      have hi : i < o.length := by
        rw [List.getElem?_eq_some_iff] at hy; exact hy.1
      rw [List.getElem?_append_left hi]; exact hy)
    have hn := ho k n h
    rw [evalAll_snoc, at_snoc, evalAll_len]
    have hc : ∀ j, j < k → k ≤ o.length → at_ (evalAll o f) j = at_ (evalAll o f ++ [evalNd x f (evalAll o f)]) j := fun j hj hk => by
      rw [at_snoc, evalAll_len, if_pos (by omega)]
    by_cases c : k < o.length
    · rw [if_pos c]
      rw [List.getElem?_append_left c] at h
      rw [ih ho' k n h]
      exact evalNd_congr hn fun j hj => hc j hj (by omega)
    · have e : k = o.length := by
        have := (List.getElem?_eq_some_iff.1 h).1
        simp at this; omega
      rw [if_neg c, if_pos e]
      subst e
      simp at h
      subst h
      exact evalNd_congr hn fun j hj => hc j hj (by omega)
/-- 'and' by the specification's own words: weak is 1, strong is 0 -/
theorem conj_words {a b : Int} (ha : Val a) (hb : Val b) : conj a b = if a = 0 ∨ b = 0 then 0 else if a < 0 ∨ b < 0 then -1 else 1 := by
  rcases ha with rfl | rfl | rfl <;> rcases hb with rfl | rfl | rfl <;> rfl
theorem disj_words {a b : Int} (ha : Val a) (hb : Val b) : neg (conj (neg a) (neg b)) = if a = 1 ∨ b = 1 then 1 else if a < 0 ∨ b < 0 then -1 else 0 := by
  rcases ha with rfl | rfl | rfl <;> rcases hb with rfl | rfl | rfl <;> rfl
/-- de Morgan -/
theorem morgan {a b : Int} (ha : Val a) (hb : Val b) : neg (neg (conj (neg a) (neg b))) = conj (neg a) (neg b) := neg_neg' _ (ha.neg.conj hb.neg)
theorem morgan' {a b : Int} (ha : Val a) (hb : Val b) : neg (conj a b) = neg (conj (neg (neg a)) (neg (neg b))) := by rw [neg_neg' a ha, neg_neg' b hb]
theorem conj_any {a : Int} (ha : Val a) : conj a 1 = a := by rcases ha with rfl | rfl | rfl <;> rfl
theorem disj_any {a : Int} (ha : Val a) : neg (conj (neg a) (neg 1)) = 1 := by rcases ha with rfl | rfl | rfl <;> rfl
end Po
end Go.Proofs.YtdeccekeknlnoaaGreatDoor

namespace Go.Proofs.YtdeccekeknlnoaaGreatDoor
namespace Po
/-- a number in decimal notation -/
def dec (n : Nat) : List UInt8 := if n ≤ 9 then [UInt8.ofNat (48 + n)] else dec (n / 10) ++ [UInt8.ofNat (48 + n % 10)]
termination_by n
decreasing_by omega
def hexc (n : Nat) : UInt8 := if n ≤ 9 then UInt8.ofNat (48 + n) else UInt8.ofNat (87 + n)
/-- the words of a digest from its byte number i on, a blank and an x ahead of each four bytes -/
def hexF : Nat → List Nat → List UInt8
  | _, [] => []
  | i, b :: d => (if i % 4 = 0 then [32, 120] else []) ++ [hexc (b / 16), hexc (b % 16)] ++ hexF (i + 1) d
def sub (ts : List (List UInt8)) (k : Nat) : List UInt8 := ts.getD k []
def textNd (n : Nd) (ts : List (List UInt8)) : List UInt8 := match n.k with
  | 1 => str "any"
  | 2 => str "version == " ++ dec n.n
  | 3 => str "version >= " ++ dec n.n
  | 4 => str "epoch == " ++ dec n.n
  | 5 => str "epoch >= " ++ dec n.n
  | 6 => str "stage " ++ dec n.n ++ str " is" ++ hexF 0 n.dg
  | 7 => str "point " ++ dec n.n ++ str " " ++ dec n.m ++ str " took " ++ (if n.side = 1 then str "true" else str "false")
  | 8 => str "!" ++ sub ts (n.of.getD 0 0)
  | 9 => str "(" ++ sub ts (n.of.getD 0 0) ++ str " && " ++ sub ts (n.of.getD 1 0) ++ str ")"
  | _ => str "(" ++ sub ts (n.of.getD 0 0) ++ str " || " ++ sub ts (n.of.getD 1 0) ++ str ")"
def textAll (o : List Nd) : List (List UInt8) := o.foldl (fun r n => r ++ [textNd n r]) []
def text (o : List Nd) : List UInt8 := (textAll o).getLast?.getD []
theorem textAll_snoc (o : List Nd) (n : Nd) : textAll (o ++ [n]) = textAll o ++ [textNd n (textAll o)] := by simp [textAll, List.foldl_append]
theorem textAll_len (o : List Nd) : (textAll o).length = o.length := by
  induction o using snoc_ind with
  | nil => rfl
  | append_singleton o n ih => rw [textAll_snoc]; simp [ih]
theorem sub_snoc (r : List (List UInt8)) (v : List UInt8) (k : Nat) : sub (r ++ [v]) k = if k < r.length then sub r k else if k = r.length then v else [] := by
  unfold sub
  by_cases h : k < r.length
  · rw [if_pos h, List.getD_eq_getElem?_getD, List.getD_eq_getElem?_getD, List.getElem?_append_left h]
  · rw [if_neg h]
    by_cases e : k = r.length
    · subst e; simp
    · rw [if_neg e, List.getD_eq_getElem?_getD, List.getElem?_eq_none (by simp; omega)]; rfl
theorem textNd_congr {i : Nat} {n : Nd} {r s : List (List UInt8)} (hn : OkNd i n) (h : ∀ j, j < i → sub r j = sub s j) : textNd n r = textNd n s := by
  by_cases c8 : n.k = 8
  · obtain ⟨a, ha, hi⟩ := hn.one c8
    unfold textNd
    rw [c8, ha]
    simp [h a hi]
  · by_cases c9 : 9 ≤ n.k
    · obtain ⟨a, b, ha, hi, hj⟩ := hn.two c9
      have hk := hn.hi
      unfold textNd
      have : n.k = 9 ∨ n.k = 10 := by omega
      rcases this with e | e <;> rw [e, ha] <;> simp [h a hi, h b hj]
    · have h1 := hn.lo
      have : n.k = 1 ∨ n.k = 2 ∨ n.k = 3 ∨ n.k = 4 ∨ n.k = 5 ∨ n.k = 6 ∨ n.k = 7 := by omega
      unfold textNd
      rcases this with e | e | e | e | e | e | e <;> rw [e] <;> rfl
theorem textAll_at : ∀ (o : List Nd), OkAll o → ∀ (k : Nat) (n : Nd), o[k]? = some n → sub (textAll o) k = textNd n (textAll o) := by
  intro o
  induction o using snoc_ind with
  | nil => intro _ k n h; simp at h
  | append_singleton o x ih =>
    intro ho k n h
    have ho' : OkAll o := fun i y hy => ho i y (by
      have hi : i < o.length := by
        rw [List.getElem?_eq_some_iff] at hy; exact hy.1
      rw [List.getElem?_append_left hi]; exact hy)
    have hn := ho k n h
    rw [textAll_snoc, sub_snoc, textAll_len]
    have hc : ∀ j, j < k → k ≤ o.length → sub (textAll o) j = sub (textAll o ++ [textNd x (textAll o)]) j := fun j hj hk => by
      rw [sub_snoc, textAll_len, if_pos (by omega)]
    by_cases c : k < o.length
    · rw [if_pos c]
      rw [List.getElem?_append_left c] at h
      rw [ih ho' k n h]
      exact textNd_congr hn fun j hj => hc j hj (by omega)
    · have e : k = o.length := by
        have := (List.getElem?_eq_some_iff.1 h).1
        simp at this; omega
      rw [if_neg c, if_pos e]
      subst e
      simp at h
      subst h
      exact textNd_congr hn fun j hj => hc j hj (by omega)
theorem text_at (o : List Nd) : text o = sub (textAll o) (o.length - 1) := by
  unfold text sub
  rw [List.getLast?_eq_getElem?, textAll_len, List.getD_eq_getElem?_getD]

/-! points -/
def ptLt (a b : Nat × Nat) : Bool := a.1 < b.1 || (a.1 == b.1 && a.2 < b.2)
/-- a point is put in its place, once -/
def insPt (x : Nat × Nat) : List (Nat × Nat) → List (Nat × Nat)
  | [] => [x]
  | y :: l => if ptLt y x then y :: insPt x l else if y = x then y :: l else x :: y :: l
def named (o : List Nd) : List (Nat × Nat) := (o.filter fun n => n.k == 7).map fun n => (n.n, n.m)
def points (o : List Nd) : List (Nat × Nat) := (named o).foldl (fun l x => insPt x l) []
end Po
end Go.Proofs.YtdeccekeknlnoaaGreatDoor

namespace Go.Proofs.YtdeccekeknlnoaaGreatDoor
namespace Po
/-- strictly increasing -/
def Incr : List (Nat × Nat) → Prop
  | [] => True
  | x :: l => (∀ y ∈ l, ptLt x y = true) ∧ Incr l
theorem ptLt_iff (a b : Nat × Nat) : ptLt a b = true ↔ a.1 < b.1 ∨ (a.1 = b.1 ∧ a.2 < b.2) := by simp [ptLt]
theorem ptLt_trans {a b c : Nat × Nat} (h : ptLt a b = true) (g : ptLt b c = true) : ptLt a c = true := by
  rw [ptLt_iff] at *; omega
theorem ptLt_irr (a : Nat × Nat) : ¬ ptLt a a = true := by rw [ptLt_iff]; omega
theorem ptLt_tri {a b : Nat × Nat} (h : ¬ ptLt a b = true) (g : a ≠ b) : ptLt b a = true := by
  rw [ptLt_iff] at *
  have : ¬ (a.1 = b.1 ∧ a.2 = b.2) := fun e => g (Prod.ext e.1 e.2)
  omega
theorem mem_insPt (x : Nat × Nat) : ∀ (l : List (Nat × Nat)) (z : Nat × Nat), z ∈ insPt x l ↔ z = x ∨ z ∈ l
  | [], z => by simp [insPt]
  | y :: l, z => by
    unfold insPt
    split
    · simp only [List.mem_cons, mem_insPt x l z]
      constructor
      · rintro (h | h | h)
        · exact .inr (.inl h)
        · exact .inl h
        · exact .inr (.inr h)
      · rintro (h | h | h)
        · exact .inr (.inl h)
        · exact .inl h
        · exact .inr (.inr h)
    · split
      · rename_i e
        subst e
        simp only [List.mem_cons]
        constructor
        · exact .inr
        · rintro (h | h)
          · exact .inl h
          · exact h
      · simp only [List.mem_cons]
theorem incr_insPt (x : Nat × Nat) : ∀ (l : List (Nat × Nat)), Incr l → Incr (insPt x l)
  | [], _ => by simp [insPt, Incr]
  | y :: l, h => by
    unfold insPt
    split
    · rename_i c
      refine ⟨fun z hz => ?_, incr_insPt x l h.2⟩
      rcases (mem_insPt x l z).1 hz with rfl | hz
      · exact c
      · exact h.1 z hz
    · split
      · exact h
      · rename_i c e
        have hxy : ptLt x y = true := ptLt_tri c e
        refine ⟨fun z hz => ?_, h⟩
        rcases List.mem_cons.1 hz with rfl | hz
        · exact hxy
        · exact ptLt_trans hxy (h.1 z hz)
/-- two strictly increasing lists with the same members are the same -/
theorem incr_ext : ∀ (l m : List (Nat × Nat)), Incr l → Incr m → (∀ z, z ∈ l ↔ z ∈ m) → l = m
  | [], [], _, _, _ => rfl
  | [], y :: m, _, _, h => by have := (h y).2 (by simp); simp at this
  | x :: l, [], _, _, h => by have := (h x).1 (by simp); simp at this
  | x :: l, y :: m, hl, hm, h => by
    have e : x = y := by
      rcases List.mem_cons.1 ((h x).1 (by simp)) with e | hx
      · exact e
      · rcases List.mem_cons.1 ((h y).2 (by simp)) with e | hy
        · exact e.symm
        · exact absurd (ptLt_trans (hl.1 y hy) (hm.1 x hx)) (ptLt_irr x)
    subst e
    congr 1
    refine incr_ext l m hl.2 hm.2 fun z => ⟨fun hz => ?_, fun hz => ?_⟩
    · rcases List.mem_cons.1 ((h z).1 (by simp [hz])) with rfl | h'
      · exact absurd (hl.1 z hz) (ptLt_irr z)
      · exact h'
    · rcases List.mem_cons.1 ((h z).2 (by simp [hz])) with rfl | h'
      · exact absurd (hm.1 z hz) (ptLt_irr z)
      · exact h'
theorem fold_incr : ∀ (xs l : List (Nat × Nat)), Incr l → Incr (xs.foldl (fun l x => insPt x l) l)
  | [], _, h => h
  | x :: xs, l, h => fold_incr xs _ (incr_insPt x l h)
theorem fold_mem : ∀ (xs l : List (Nat × Nat)) (z : Nat × Nat), z ∈ xs.foldl (fun l x => insPt x l) l ↔ z ∈ xs ∨ z ∈ l
  | [], l, z => by simp
  | x :: xs, l, z => by
    rw [List.foldl_cons, fold_mem xs, mem_insPt, List.mem_cons]
    constructor
    · rintro (h | h | h)
      · exact .inl (.inr h)
      · exact .inl (.inl h)
      · exact .inr h
    · rintro ((h | h) | h)
      · exact .inr (.inl h)
      · exact .inl h
      · exact .inr (.inr h)
theorem points_incr (o : List Nd) : Incr (points o) := fold_incr _ _ trivial
theorem points_mem (o : List Nd) (z : Nat × Nat) : z ∈ points o ↔ z ∈ named o := by unfold points; rw [fold_mem]; simp
theorem mem_named (o : List Nd) (z : Nat × Nat) : z ∈ named o ↔ ∃ n ∈ o, n.k = 7 ∧ (n.n, n.m) = z := by
  simp [named, and_assoc]
end Po
end Go.Proofs.YtdeccekeknlnoaaGreatDoor

namespace Go.Proofs.YtdeccekeknlnoaaGreatDoor
namespace Po
inductive T where
  | at (n : Nd)
  | no (t : T)
  | an (a b : T)
  | or (a b : T)
deriving Inhabited
def T.size : T → Nat
  | .at _ => 1
  | .no t => t.size + 1
  | .an a b => a.size + b.size + 1
  | .or a b => a.size + b.size + 1
def T.flat : T → Nat → List Nd
  | .at n, _ => [n]
  | .no t, i => t.flat i ++ [⟨8, 0, 0, 0, zero16, [i + t.size - 1]⟩]
  | .an a b, i => a.flat i ++ b.flat (i + a.size) ++ [⟨9, 0, 0, 0, zero16, [i + a.size - 1, i + a.size + b.size - 1]⟩]
  | .or a b, i => a.flat i ++ b.flat (i + a.size) ++ [⟨10, 0, 0, 0, zero16, [i + a.size - 1, i + a.size + b.size - 1]⟩]
theorem T.flat_len : ∀ (t : T) (i : Nat), (t.flat i).length = t.size
  | .at _, _ => rfl
  | .no t, i => by simp [flat, size, flat_len t]
  | .an a b, i => by simp [flat, size, flat_len a, flat_len b]; omega
  | .or a b, i => by simp [flat, size, flat_len a, flat_len b]; omega
theorem T.size_pos : ∀ (t : T), 0 < t.size
  | .at _ => by simp [size]
  | .no _ => by simp [size]
  | .an _ _ => by simp [size]
  | .or _ _ => by simp [size]
/-- the parser, of trees; at the levels 3 and 4 the first operand is given -/
def PT : Nat → Nat → List Tok → T → Option (Option (List Tok × T))
  | 0, _, _, _ => none
  | f + 1, lv, l, a =>
    if lv = 0 then match PT f 1 l a with
      | some (some x) => PT f 3 x.1 x.2
      | r => r
    else if lv = 1 then match PT f 2 l a with
      | some (some x) => PT f 4 x.1 x.2
      | r => r
    else if lv = 3 then
      if isT l 3 [124, 124] then match PT f 1 l.tail a with
        | some (some x) => PT f 3 x.1 (.or a x.2)
        | r => r
      else some (some (l, a))
    else if lv = 4 then
      if isT l 3 [38, 38] then match PT f 2 l.tail a with
        | some (some x) => PT f 4 x.1 (.an a x.2)
        | r => r
      else some (some (l, a))
    else
      if isT l 3 [33] then match PT f 2 l.tail a with
        | some (some x) => some (some (x.1, .no x.2))
        | r => r
      else if isT l 3 [40] then match PT f 0 l.tail a with
        | some (some x) => some ((must 3 [41] x.1).map fun y => (y.2, x.2))
        | r => r
      else some ((atom l).map fun x => (x.2, .at x.1))
def lay (o : List Nd) (r : Option (Option (List Tok × T))) : Option (Option (List Tok × List Nd)) := r.map fun r => r.map fun x => (x.1, o ++ x.2.flat o.length)
theorem P_tree : ∀ (f : Nat), (∀ lv l o a, lv ≠ 3 → lv ≠ 4 → P f lv l o = lay o (PT f lv l a)) ∧ (∀ lv l o a, lv = 3 ∨ lv = 4 → P f lv l (o ++ a.flat o.length) = lay o (PT f lv l a))
  | 0 => ⟨fun _ _ _ _ _ _ => rfl, fun _ _ _ _ _ => rfl⟩
  | f + 1 => by
    obtain ⟨I, J⟩ := P_tree f
    refine ⟨fun lv l o a h3 h4 => ?_, fun lv l o a h => ?_⟩
    · simp only [P, PT, if_neg h3, if_neg h4]
      by_cases c0 : lv = 0
      · simp only [if_pos c0]
        rw [I 1 l o a (by omega) (by omega)]
        rcases PT f 1 l a with _ | _ | x
        · rfl
        · rfl
        · exact J 3 x.1 o x.2 (.inl rfl)
      · simp only [if_neg c0]
        by_cases c1 : lv = 1
        · simp only [if_pos c1]
          rw [I 2 l o a (by omega) (by omega)]
          rcases PT f 2 l a with _ | _ | x
          · rfl
          · rfl
          · exact J 4 x.1 o x.2 (.inr rfl)
        · simp only [if_neg c1]
          split
          · rw [I 2 l.tail o a (by omega) (by omega)]
            rcases PT f 2 l.tail a with _ | _ | x
            · rfl
            · rfl
            · simp [lay, T.flat, T.flat_len]
          · split
            · rw [I 0 l.tail o a (by omega) (by omega)]
              rcases PT f 0 l.tail a with _ | _ | x
              · rfl
              · rfl
              · simp only [lay, Option.map_some]
                cases must 3 [41] x.1 <;> rfl
            · cases atom l <;> rfl
    · rcases h with rfl | rfl
      · simp only [P, PT]
        simp only [show ¬ (3 : Nat) = 0 by omega, show ¬ (3 : Nat) = 1 by omega, if_false, if_true]
        split
        · rw [I 1 l.tail (o ++ a.flat o.length) a (by omega) (by omega)]
          rcases PT f 1 l.tail a with _ | _ | x
          · rfl
          · rfl
          · have := J 3 x.1 o (.or a x.2) (.inl rfl)
            rw [← this]
            simp [lay, T.flat, T.flat_len, Nat.add_assoc]
        · rfl
      · simp only [P, PT]
        simp only [show ¬ (4 : Nat) = 0 by omega, show ¬ (4 : Nat) = 1 by omega, show ¬ (4 : Nat) = 3 by omega, if_false, if_true]
        split
        · rw [I 2 l.tail (o ++ a.flat o.length) a (by omega) (by omega)]
          rcases PT f 2 l.tail a with _ | _ | x
          · rfl
          · rfl
          · have := J 4 x.1 o (.an a x.2) (.inr rfl)
            rw [← this]
            simp [lay, T.flat, T.flat_len, Nat.add_assoc]
        · rfl
end Po
end Go.Proofs.YtdeccekeknlnoaaGreatDoor

namespace Go.Proofs.YtdeccekeknlnoaaGreatDoor
namespace Po
def T.ok : T → Prop
  | .at n => 1 ≤ n.k ∧ n.k < 8
  | .no t => t.ok
  | .an a b => a.ok ∧ b.ok
  | .or a b => a.ok ∧ b.ok
def evT (f : Facts) : T → Int
  | .at n => evalNd n f []
  | .no t => neg (evT f t)
  | .an a b => conj (evT f a) (evT f b)
  | .or a b => neg (conj (neg (evT f a)) (neg (evT f b)))
theorem evalAll_app_at (o : List Nd) (f : Facts) (k : Nat) (h : k < o.length) (e : List Nd) : at_ (evalAll (o ++ e) f) k = at_ (evalAll o f) k := by
  induction e using snoc_ind with
  | nil => simp
  | append_singleton e n ih => rw [← List.append_assoc, evalAll_snoc, at_snoc, evalAll_len, if_pos (by simp; omega), ih]
theorem evalNd_leaf {n : Nd} (h : 1 ≤ n.k ∧ n.k < 8) (f : Facts) (r s : List Int) : evalNd n f r = evalNd n f s := by
  have : n.k = 1 ∨ n.k = 2 ∨ n.k = 3 ∨ n.k = 4 ∨ n.k = 5 ∨ n.k = 6 ∨ n.k = 7 := by omega
  unfold evalNd
  rcases this with e | e | e | e | e | e | e <;> rw [e] <;> rfl
theorem at_last (o : List Nd) (n : Nd) (f : Facts) : at_ (evalAll (o ++ [n]) f) o.length = evalNd n f (evalAll o f) := by
  rw [evalAll_snoc, at_snoc, evalAll_len, if_neg (by omega), if_pos rfl]
theorem evT_at (f : Facts) : ∀ (t : T) (o : List Nd), t.ok → at_ (evalAll (o ++ t.flat o.length) f) (o.length + t.size - 1) = evT f t
  | .at n, o, h => by
    simp only [T.flat, T.size, evT, Nat.add_sub_cancel]
    rw [at_last]
    exact evalNd_leaf h f _ _
  | .no t, o, h => by
    have ih := evT_at f t o h
    simp only [T.flat, T.size, evT]
    rw [← List.append_assoc, show o.length + (t.size + 1) - 1 = (o ++ t.flat o.length).length by simp [T.flat_len], at_last]
    show neg (at_ _ (o.length + t.size - 1)) = _
    rw [ih]
  | .an a b, o, h => by
    have i1 := evT_at f a o h.1
    have i2 := evT_at f b (o ++ a.flat o.length) h.2
    have hp := T.size_pos a
    simp only [List.length_append, T.flat_len] at i2
    simp only [T.flat, T.size, evT]
    rw [← List.append_assoc, ← List.append_assoc, show o.length + (a.size + b.size + 1) - 1 = (o ++ a.flat o.length ++ b.flat (o.length + a.size)).length by (simp only [List.length_append, T.flat_len]; omega), at_last]
    show conj (at_ _ (o.length + a.size - 1)) (at_ _ (o.length + a.size + b.size - 1)) = _
    rw [i2, evalAll_app_at _ _ _ (by simp [T.flat_len]; omega), i1]
  | .or a b, o, h => by
    have i1 := evT_at f a o h.1
    have i2 := evT_at f b (o ++ a.flat o.length) h.2
    have hp := T.size_pos a
    simp only [List.length_append, T.flat_len] at i2
    simp only [T.flat, T.size, evT]
    rw [← List.append_assoc, ← List.append_assoc, show o.length + (a.size + b.size + 1) - 1 = (o ++ a.flat o.length ++ b.flat (o.length + a.size)).length by (simp only [List.length_append, T.flat_len]; omega), at_last]
    show neg (conj (neg (at_ _ (o.length + a.size - 1))) (neg (at_ _ (o.length + a.size + b.size - 1)))) = _
    rw [i2, evalAll_app_at _ _ _ (by simp [T.flat_len]; omega), i1]
theorem evT_val (f : Facts) (t : T) (h : t.ok) : Val (evT f t) := by
  have := evT_at f t [] h
  rw [← this]
  exact evalAll_val _ _ _
/-- the value of a tree laid flat -/
theorem eval_flat (f : Facts) (t : T) (h : t.ok) : eval (t.flat 0) f = evT f t := by
  have := evT_at f t [] h
  rw [eval_at, T.flat_len]
  simpa using this
end Po
end Go.Proofs.YtdeccekeknlnoaaGreatDoor

namespace Go.Proofs.YtdeccekeknlnoaaGreatDoor
namespace Po
def txT : T → List UInt8
  | .at n => textNd n []
  | .no t => str "!" ++ txT t
  | .an a b => str "(" ++ txT a ++ str " && " ++ txT b ++ str ")"
  | .or a b => str "(" ++ txT a ++ str " || " ++ txT b ++ str ")"
theorem textAll_app_at (o : List Nd) (k : Nat) (h : k < o.length) (e : List Nd) : sub (textAll (o ++ e)) k = sub (textAll o) k := by
  induction e using snoc_ind with
  | nil => simp
  | append_singleton e n ih => rw [← List.append_assoc, textAll_snoc, sub_snoc, textAll_len, if_pos (by simp; omega), ih]
theorem textNd_leaf {n : Nd} (h : 1 ≤ n.k ∧ n.k < 8) (r s : List (List UInt8)) : textNd n r = textNd n s := by
  have : n.k = 1 ∨ n.k = 2 ∨ n.k = 3 ∨ n.k = 4 ∨ n.k = 5 ∨ n.k = 6 ∨ n.k = 7 := by omega
  unfold textNd
  rcases this with e | e | e | e | e | e | e <;> rw [e] <;> rfl
theorem sub_last (o : List Nd) (n : Nd) : sub (textAll (o ++ [n])) o.length = textNd n (textAll o) := by
  rw [textAll_snoc, sub_snoc, textAll_len, if_neg (by omega), if_pos rfl]
theorem txT_at : ∀ (t : T) (o : List Nd), t.ok → sub (textAll (o ++ t.flat o.length)) (o.length + t.size - 1) = txT t
  | .at n, o, h => by
    simp only [T.flat, T.size, txT, Nat.add_sub_cancel]
    rw [sub_last]
    exact textNd_leaf h _ _
  | .no t, o, h => by
    have ih := txT_at t o h
    simp only [T.flat, T.size, txT]
    rw [← List.append_assoc, show o.length + (t.size + 1) - 1 = (o ++ t.flat o.length).length by simp [T.flat_len], sub_last]
    show str "!" ++ (sub _ (o.length + t.size - 1)) = _
    rw [ih]
  | .an a b, o, h => by
    have i1 := txT_at a o h.1
    have i2 := txT_at b (o ++ a.flat o.length) h.2
    have hp := T.size_pos a
    simp only [List.length_append, T.flat_len] at i2
    simp only [T.flat, T.size, txT]
    rw [← List.append_assoc, ← List.append_assoc, show o.length + (a.size + b.size + 1) - 1 = (o ++ a.flat o.length ++ b.flat (o.length + a.size)).length by (simp only [List.length_append, T.flat_len]; omega), sub_last]
    show str "(" ++ (sub _ (o.length + a.size - 1)) ++ str " && " ++ (sub _ (o.length + a.size + b.size - 1)) ++ str ")" = _
    rw [i2, textAll_app_at _ _ (by simp [T.flat_len]; omega), i1]
  | .or a b, o, h => by
    have i1 := txT_at a o h.1
    have i2 := txT_at b (o ++ a.flat o.length) h.2
    have hp := T.size_pos a
    simp only [List.length_append, T.flat_len] at i2
    simp only [T.flat, T.size, txT]
    rw [← List.append_assoc, ← List.append_assoc, show o.length + (a.size + b.size + 1) - 1 = (o ++ a.flat o.length ++ b.flat (o.length + a.size)).length by (simp only [List.length_append, T.flat_len]; omega), sub_last]
    show str "(" ++ (sub _ (o.length + a.size - 1)) ++ str " || " ++ (sub _ (o.length + a.size + b.size - 1)) ++ str ")" = _
    rw [i2, textAll_app_at _ _ (by simp [T.flat_len]; omega), i1]
/-- the text of a tree laid flat -/
theorem text_flat (t : T) (h : t.ok) : text (t.flat 0) = txT t := by
  have := txT_at t [] h
  rw [text_at, T.flat_len]
  simpa using this
end Po
end Go.Proofs.YtdeccekeknlnoaaGreatDoor

namespace Go.Proofs.YtdeccekeknlnoaaGreatDoor
namespace Po
theorem atom_leaf {l r : List Tok} {x : Nd} (hl : OkToks l) (h : atom l = some (x, r)) : 1 ≤ x.k ∧ x.k < 8 := by
  have t := (atom_ok (i := 0) hl h).2
  refine ⟨t.lo, ?_⟩
  by_cases c : x.k < 8
  · exact c
  · by_cases e : x.k = 8
    · obtain ⟨a, _, h⟩ := t.one e; omega
    · obtain ⟨a, b, _, h, _⟩ := t.two (by omega); omega
theorem PT_ok : ∀ (f lv : Nat) (l : List Tok) (a : T) (l' : List Tok) (t : T), OkToks l → a.ok → PT f lv l a = some (some (l', t)) → OkToks l' ∧ t.ok
  | 0, _, _, _, _, _, _, _, h => by simp [PT] at h
  | f + 1, lv, l, a, l', t, hl, ha, h => by
    have I := PT_ok f
    simp only [PT] at h
    split at h
    · rcases h1 : PT f 1 l a with _ | _ | x
      · simp [h1] at h
      · simp [h1] at h
      · simp only [h1] at h
        have := I _ _ _ _ _ hl ha h1
        exact I _ _ _ _ _ this.1 this.2 h
    · split at h
      · rcases h1 : PT f 2 l a with _ | _ | x
        · simp [h1] at h
        · simp [h1] at h
        · simp only [h1] at h
          have := I _ _ _ _ _ hl ha h1
          exact I _ _ _ _ _ this.1 this.2 h
      · split at h
        · split at h
          · rcases h1 : PT f 1 l.tail a with _ | _ | x
            · simp [h1] at h
            · simp [h1] at h
            · simp only [h1] at h
              have := I _ _ _ _ _ hl.tail ha h1
              exact I _ _ (.or a x.2) _ _ this.1 ⟨ha, this.2⟩ h
          · simp at h; obtain ⟨rfl, rfl⟩ := h; exact ⟨hl, ha⟩
        · split at h
          · split at h
            · rcases h1 : PT f 2 l.tail a with _ | _ | x
              · simp [h1] at h
              · simp [h1] at h
              · simp only [h1] at h
                have := I _ _ _ _ _ hl.tail ha h1
                exact I _ _ (.an a x.2) _ _ this.1 ⟨ha, this.2⟩ h
            · simp at h; obtain ⟨rfl, rfl⟩ := h; exact ⟨hl, ha⟩
          · split at h
            · rcases h1 : PT f 2 l.tail a with _ | _ | x
              · simp [h1] at h
              · simp [h1] at h
              · simp only [h1] at h
                have := I _ _ _ _ _ hl.tail ha h1
                simp at h; obtain ⟨rfl, rfl⟩ := h
                exact ⟨this.1, this.2⟩
            · split at h
              · rcases h1 : PT f 0 l.tail a with _ | _ | x
                · simp [h1] at h
                · simp [h1] at h
                · simp only [h1] at h
                  have := I _ _ _ _ _ hl.tail ha h1
                  rcases h2 : must 3 [41] x.1 with _ | ⟨y, r⟩
                  · simp [h2] at h
                  · have g := must_ok this.1 h2
                    simp [h2] at h; obtain ⟨rfl, rfl⟩ := h
                    exact ⟨g.1, this.2⟩
              · rcases h2 : atom l with _ | ⟨y, r⟩
                · simp [h2] at h
                · have g := atom_leaf hl h2
                  have g2 := (atom_ok (i := 0) hl h2).1
                  simp [h2] at h; obtain ⟨rfl, rfl⟩ := h
                  exact ⟨g2, g⟩
end Po
end Go.Proofs.YtdeccekeknlnoaaGreatDoor

namespace Go.Proofs.YtdeccekeknlnoaaGreatDoor
namespace Po
abbrev RT := Option (Option (List Tok × T))
def bindT (r : RT) (g : List Tok × T → RT) : RT := match r with
  | some (some x) => g x
  | r => r
def PTstep (g : Nat → List Tok → T → RT) (lv : Nat) (l : List Tok) (a : T) : RT :=
  if lv = 0 then bindT (g 1 l a) fun x => g 3 x.1 x.2
  else if lv = 1 then bindT (g 2 l a) fun x => g 4 x.1 x.2
  else if lv = 3 then
    if isT l 3 [124, 124] then bindT (g 1 l.tail a) fun x => g 3 x.1 (.or a x.2) else some (some (l, a))
  else if lv = 4 then
    if isT l 3 [38, 38] then bindT (g 2 l.tail a) fun x => g 4 x.1 (.an a x.2) else some (some (l, a))
  else
    if isT l 3 [33] then bindT (g 2 l.tail a) fun x => some (some (x.1, .no x.2))
    else if isT l 3 [40] then bindT (g 0 l.tail a) fun x => some ((must 3 [41] x.1).map fun y => (y.2, x.2))
    else some ((atom l).map fun x => (x.2, .at x.1))
theorem PT_succ (f lv : Nat) (l : List Tok) (a : T) : PT (f + 1) lv l a = PTstep (PT f) lv l a := by
  unfold PTstep
  simp only [PT]
  rfl
theorem bindT_mono {r r' : RT} {g g' : List Tok × T → RT} {y : Option (List Tok × T)} (h1 : ∀ x, r = some x → r' = some x) (h2 : ∀ x y, g x = some y → g' x = some y) (h : bindT r g = some y) : bindT r' g' = some y := by
  rcases r with _ | _ | x
  · simp [bindT] at h
  · rw [h1 _ rfl]; exact h
  · rw [h1 _ rfl]; exact h2 _ _ h
theorem PTstep_mono {g g' : Nat → List Tok → T → RT} (hg : ∀ lv l a x, g lv l a = some x → g' lv l a = some x) (lv : Nat) (l : List Tok) (a : T) (x) (h : PTstep g lv l a = some x) : PTstep g' lv l a = some x := by
  unfold PTstep at h ⊢
  by_cases c0 : lv = 0
  · simp only [if_pos c0] at h ⊢
    exact bindT_mono (hg _ _ _) (fun _ _ => hg _ _ _ _) h
  simp only [if_neg c0] at h ⊢
  by_cases c1 : lv = 1
  · simp only [if_pos c1] at h ⊢
    exact bindT_mono (hg _ _ _) (fun _ _ => hg _ _ _ _) h
  simp only [if_neg c1] at h ⊢
  by_cases c3 : lv = 3
  · simp only [if_pos c3] at h ⊢
    by_cases t : isT l 3 [124, 124] = true
    · simp only [if_pos t] at h ⊢
      exact bindT_mono (hg _ _ _) (fun _ _ => hg _ _ _ _) h
    · simp only [if_neg t] at h ⊢
      exact h
  simp only [if_neg c3] at h ⊢
  by_cases c4 : lv = 4
  · simp only [if_pos c4] at h ⊢
    by_cases t : isT l 3 [38, 38] = true
    · simp only [if_pos t] at h ⊢
      exact bindT_mono (hg _ _ _) (fun _ _ => hg _ _ _ _) h
    · simp only [if_neg t] at h ⊢
      exact h
  simp only [if_neg c4] at h ⊢
  by_cases t : isT l 3 [33] = true
  · simp only [if_pos t] at h ⊢
    exact bindT_mono (hg _ _ _) (fun _ _ h => h) h
  simp only [if_neg t] at h ⊢
  by_cases t2 : isT l 3 [40] = true
  · simp only [if_pos t2] at h ⊢
    exact bindT_mono (hg _ _ _) (fun _ _ h => h) h
  simp only [if_neg t2] at h ⊢
  exact h
theorem PT_mono1 : ∀ (f lv : Nat) (l : List Tok) (a : T) (x), PT f lv l a = some x → PT (f + 1) lv l a = some x
  | 0, _, _, _, _, h => by simp [PT] at h
  | f + 1, lv, l, a, x, h => by
    rw [PT_succ] at h ⊢
    exact PTstep_mono (PT_mono1 f) _ _ _ _ h
theorem PT_mono {f f' lv : Nat} {l : List Tok} {a : T} {x} (h : PT f lv l a = some x) (hf : f ≤ f') : PT f' lv l a = some x := by
  obtain ⟨k, rfl⟩ := Nat.exists_eq_add_of_le hf
  induction k with
  | zero => exact h
  | succ k ih => exact PT_mono1 _ _ _ _ _ (ih (by omega))
/-- nothing follows, or a closing bracket -/
def Shut (r : List Tok) : Prop := r = [] ∨ ∃ y s, r = y :: s ∧ y.k = 3 ∧ y.t = [41]
theorem isT_app {r : List Tok} (hr : Shut r) (l : List Tok) (k : Nat) (t : List UInt8) (h : k ≠ 3 ∨ (t ≠ [] ∧ t ≠ [41])) : isT (l ++ r) k t = isT l k t := by
  cases l with
  | cons x l => rfl
  | nil =>
    rcases hr with rfl | ⟨y, s, rfl, h1, h2⟩
    · rfl
    · simp only [List.nil_append, isT]
      rcases h with h | ⟨h, g⟩
      · rw [h1]
        have : ((3 : Nat) == k) = false := by simp; omega
        rw [this]; rfl
      · rw [h2]
        have e1 : (t == []) = false := by cases t <;> simp_all
        have e2 : (([41] : List UInt8) == t) = false := by
          rw [Bool.eq_false_iff]; intro e; exact g (by simpa using (beq_iff_eq.1 e).symm)
        rw [e1, e2]; simp
theorem must_app {l l' r : List Tok} {k : Nat} {t : List UInt8} {x : Tok} (h : must k t l = some (x, l')) : must k t (l ++ r) = some (x, l' ++ r) := by
  cases l with
  | nil => simp [must] at h
  | cons y l =>
    simp only [List.cons_append, must] at h ⊢
    split at h
    · rename_i c
      simp only [Option.some.injEq, Prod.mk.injEq] at h
      rw [if_pos c, h.1, h.2]
    · cases h
theorem tail_app {l r : List Tok} {k : Nat} {t : List UInt8} (h : isT l k t = true) : (l ++ r).tail = l.tail ++ r := by
  cases l with
  | nil => simp [isT] at h
  | cons y l => rfl
theorem compare_app {a b : Nat} {l l' r : List Tok} {x : Nd} (hr : Shut r) (h : compare a b l = some (x, l')) : compare a b (l ++ r) = some (x, l' ++ r) := by
  unfold compare at h ⊢
  rw [isT_app hr _ _ _ (by right; decide)]
  split at h
  · rename_i c
    rw [if_pos c, tail_app c]
    simp only [Option.map_eq_some_iff] at h ⊢
    obtain ⟨⟨y, r1⟩, h1, h2⟩ := h
    simp only [Prod.mk.injEq] at h2
    obtain ⟨rfl, rfl⟩ := h2
    exact ⟨_, must_app h1, rfl⟩
  · rename_i c
    rw [if_neg c]
    simp only [Option.bind_eq_some_iff, Option.map_eq_some_iff] at h ⊢
    obtain ⟨⟨y, r1⟩, h1, ⟨z, r2⟩, h2, h3⟩ := h
    simp only [Prod.mk.injEq] at h3
    obtain ⟨rfl, rfl⟩ := h3
    exact ⟨_, must_app h1, _, must_app h2, rfl⟩
theorem digestF_app : ∀ (i : Nat) {l l' r : List Tok} {d : List Nat}, digestF i l = some (d, l') → digestF i (l ++ r) = some (d, l' ++ r)
  | 0, l, l', r, d, h => by simp [digestF] at h ⊢; exact ⟨h.1, by rw [h.2]⟩
  | i + 1, l, l', r, d, h => by
    simp only [digestF, Option.bind_eq_some_iff, Option.map_eq_some_iff] at h ⊢
    obtain ⟨⟨y, r1⟩, h1, w, h2, ⟨z, r2⟩, h3, h4⟩ := h
    simp only [Prod.mk.injEq] at h4
    obtain ⟨rfl, rfl⟩ := h4
    exact ⟨_, must_app h1, _, h2, _, digestF_app i h3, rfl⟩
theorem atom_app {l l' r : List Tok} {x : Nd} (hr : Shut r) (h : atom l = some (x, l')) : atom (l ++ r) = some (x, l' ++ r) := by
  unfold atom at h ⊢
  simp only [Option.bind_eq_some_iff] at h ⊢
  obtain ⟨⟨y, r1⟩, h1, h⟩ := h
  refine ⟨_, must_app h1, ?_⟩
  simp only at h ⊢
  split at h
  · rename_i c
    rw [if_pos c]
    simp only [Option.some.injEq, Prod.mk.injEq] at h
    obtain ⟨rfl, rfl⟩ := h
    rfl
  rename_i c
  rw [if_neg c]
  split at h
  · rename_i c
    rw [if_pos c]
    exact compare_app hr h
  rename_i c
  rw [if_neg c]
  split at h
  · rename_i c
    rw [if_pos c]
    exact compare_app hr h
  rename_i c
  rw [if_neg c]
  split at h
  · rename_i c
    rw [if_pos c]
    simp only [Option.bind_eq_some_iff, Option.map_eq_some_iff] at h ⊢
    obtain ⟨⟨a, r2⟩, h2, ⟨b, r3⟩, h3, ⟨d, r4⟩, h4, h5⟩ := h
    simp only [Prod.mk.injEq] at h5
    obtain ⟨rfl, rfl⟩ := h5
    exact ⟨_, must_app h2, _, must_app h3, _, digestF_app 4 h4, rfl⟩
  rename_i c
  rw [if_neg c]
  split at h
  · rename_i c
    rw [if_pos c]
    simp only [Option.bind_eq_some_iff] at h ⊢
    obtain ⟨⟨a, r2⟩, h2, ⟨b, r3⟩, h3, ⟨d, r4⟩, h4, h5⟩ := h
    refine ⟨_, must_app h2, _, must_app h3, _, must_app h4, ?_⟩
    simp only at h5 ⊢
    rw [isT_app hr _ _ _ (by left; decide)]
    split at h5
    · rename_i c
      rw [if_pos c]
      simp only [Option.some.injEq, Prod.mk.injEq] at h5 ⊢
      exact ⟨h5.1, by rw [tail_app c, h5.2]⟩
    · rename_i c
      rw [if_neg c]
      simp only [Option.map_eq_some_iff] at h5 ⊢
      obtain ⟨⟨u, r5⟩, h6, h7⟩ := h5
      simp only [Prod.mk.injEq] at h7
      obtain ⟨rfl, rfl⟩ := h7
      exact ⟨_, must_app h6, rfl⟩
  · cases h
def OnR (r : List Tok) (x : List Tok × T) : List Tok × T := (x.1 ++ r, x.2)
theorem bindT_app {r : List Tok} {p p' : RT} {g g' : List Tok × T → RT} {y : List Tok × T} (h1 : ∀ x, p = some (some x) → p' = some (some (OnR r x))) (h2 : ∀ x y, g x = some (some y) → g' (OnR r x) = some (some (OnR r y))) (h : bindT p g = some (some y)) : bindT p' g' = some (some (OnR r y)) := by
  rcases p with _ | _ | x
  · simp [bindT] at h
  · simp [bindT] at h
  · rw [h1 _ rfl]; exact h2 _ _ h
theorem PTstep_app {r : List Tok} (hr : Shut r) {g : Nat → List Tok → T → RT} (hg : ∀ lv l a x, g lv l a = some (some x) → g lv (l ++ r) a = some (some (OnR r x))) (lv : Nat) (l : List Tok) (a : T) (x) (h : PTstep g lv l a = some (some x)) : PTstep g lv (l ++ r) a = some (some (OnR r x)) := by
  unfold PTstep at h ⊢
  by_cases c0 : lv = 0
  · simp only [if_pos c0] at h ⊢
    exact bindT_app (hg _ _ _) (fun _ _ => hg _ _ _ _) h
  simp only [if_neg c0] at h ⊢
  by_cases c1 : lv = 1
  · simp only [if_pos c1] at h ⊢
    exact bindT_app (hg _ _ _) (fun _ _ => hg _ _ _ _) h
  simp only [if_neg c1] at h ⊢
  by_cases c3 : lv = 3
  · simp only [if_pos c3] at h ⊢
    rw [isT_app hr _ _ _ (by right; decide)]
    by_cases t : isT l 3 [124, 124] = true
    · simp only [if_pos t] at h ⊢
      rw [tail_app t]
      exact bindT_app (hg _ _ _) (fun _ _ => hg _ _ _ _) h
    · simp only [if_neg t] at h ⊢
      simp only [Option.some.injEq] at h ⊢
      rw [← h]; rfl
  simp only [if_neg c3] at h ⊢
  by_cases c4 : lv = 4
  · simp only [if_pos c4] at h ⊢
    rw [isT_app hr _ _ _ (by right; decide)]
    by_cases t : isT l 3 [38, 38] = true
    · simp only [if_pos t] at h ⊢
      rw [tail_app t]
      exact bindT_app (hg _ _ _) (fun _ _ => hg _ _ _ _) h
    · simp only [if_neg t] at h ⊢
      simp only [Option.some.injEq] at h ⊢
      rw [← h]; rfl
  simp only [if_neg c4] at h ⊢
  rw [isT_app hr _ _ [33] (by right; decide), isT_app hr _ _ [40] (by right; decide)]
  by_cases t : isT l 3 [33] = true
  · simp only [if_pos t] at h ⊢
    rw [tail_app t]
    refine bindT_app (hg _ _ _) (fun x y h => ?_) h
    simp only [Option.some.injEq] at h ⊢
    rw [← h]; rfl
  simp only [if_neg t] at h ⊢
  by_cases t2 : isT l 3 [40] = true
  · simp only [if_pos t2] at h ⊢
    rw [tail_app t2]
    refine bindT_app (hg _ _ _) (fun x y h => ?_) h
    simp only [Option.some.injEq, Option.map_eq_some_iff] at h ⊢
    obtain ⟨⟨z, r1⟩, h1, rfl⟩ := h
    exact ⟨_, must_app h1, rfl⟩
  simp only [if_neg t2] at h ⊢
  simp only [Option.some.injEq, Option.map_eq_some_iff] at h ⊢
  obtain ⟨⟨z, r1⟩, h1, rfl⟩ := h
  exact ⟨_, atom_app hr h1, rfl⟩
theorem PT_app {r : List Tok} (hr : Shut r) : ∀ (f lv : Nat) (l : List Tok) (a : T) (x), PT f lv l a = some (some x) → PT f lv (l ++ r) a = some (some (OnR r x))
  | 0, _, _, _, _, h => by simp [PT] at h
  | f + 1, lv, l, a, x, h => by
    rw [PT_succ] at h ⊢
    exact PTstep_app hr (PT_app hr f) _ _ _ _ h
end Po
end Go.Proofs.YtdeccekeknlnoaaGreatDoor

namespace Go.Proofs.YtdeccekeknlnoaaGreatDoor
namespace Po
theorem next_len1 {s : List UInt8} {t : Tok} (h : next s = some t) : 1 ≤ t.t.length := by
  cases s with
  | nil => simp [next] at h
  | cons c s =>
    simp only [next] at h
    have tw : ∀ p : UInt8 → Bool, p c = true → 1 ≤ ((c :: s).takeWhile p).length := by
      intro p hp
      simp [List.takeWhile, hp]
    split at h
    · rename_i hl
      split at h
      · cases h
      · simp at h; rw [← h]; exact tw word (by simp [word, hl])
    · split at h
      · rename_i hd
        split at h
        · simp at h; rw [← h]; exact tw digit hd
        · cases h
      · simp only [Option.map_eq_some_iff] at h
        obtain ⟨w, hw, rfl⟩ := h
        have hm := List.mem_of_find?_eq_some hw
        have : ∀ w ∈ ops, 1 ≤ w.length := by decide
        exact this w hm
theorem lexF_fuel : ∀ (f f' : Nat) (s : List UInt8), s.length < f → s.length < f' → lexF f s = lexF f' s
  | 0, _, s, h, _ => by omega
  | _, 0, s, _, h => by omega
  | f + 1, f' + 1, s, h, h' => by
    simp only [lexF]
    have hd := (List.dropWhile_suffix (l := s) blank).length_le
    split
    · rfl
    · rename_i c r hs
      rw [hs] at hd
      split
      · rfl
      · rename_i t ht
        have hl := next_len1 ht
        rw [lexF_fuel f f' _ (by rw [List.length_drop]; simp only [List.length_cons] at hd ⊢; omega) (by rw [List.length_drop]; simp only [List.length_cons] at hd ⊢; omega)]
theorem lex_of {f : Nat} {s : List UInt8} (h : s.length < f) : lexF f s = lex s := lexF_fuel _ _ _ h (by omega)
theorem lex_nil : lex [] = some [] := rfl
theorem lex_blank {c : UInt8} {s : List UInt8} (h : blank c = true) : lex (c :: s) = lex s := by
  rw [← lex_of (f := s.length + 2) (s := c :: s) (by simp), ← lex_of (f := s.length + 2) (s := s) (by omega)]
  simp only [lexF, List.dropWhile, h]
theorem lex_step {c : UInt8} {s : List UInt8} {t : Tok} (h : blank c = false) (hn : next (c :: s) = some t) : lex (c :: s) = (lex ((c :: s).drop t.t.length)).map (t :: ·) := by
  have hl := next_len1 hn
  rw [← lex_of (f := s.length + 2) (s := c :: s) (by simp), ← lex_of (f := s.length + 1) (s := (c :: s).drop t.t.length) (by simp; omega)]
  simp only [lexF, List.dropWhile, h, hn]
theorem lex_none {c : UInt8} {s : List UInt8} (h : blank c = false) (hn : next (c :: s) = none) : lex (c :: s) = none := by
  unfold lex
  simp only [lexF, List.dropWhile, h, hn]
/-- no letter, digit or underline follows -/
def Stop (r : List UInt8) : Prop := r.head?.any word = false
/-- nothing follows, or a closing bracket -/
def Ends (r : List UInt8) : Prop := r = [] ∨ ∃ s, r = 41 :: s
theorem Ends.stop {r : List UInt8} (h : Ends r) : Stop r := by
  rcases h with rfl | ⟨s, rfl⟩
  · rfl
  · simp only [Stop, List.head?_cons, Option.any_some]; decide
theorem digit_word {c : UInt8} (h : digit c = true) : word c = true := by simp [word, h]
theorem takeWhile_app {p : UInt8 → Bool} {s r : List UInt8} (h : r.head?.any p = false) : (s ++ r).takeWhile p = s.takeWhile p := by
  induction s with
  | nil =>
    cases r with
    | nil => rfl
    | cons x r => simp only [List.head?_cons, Option.any_some] at h; simp [List.takeWhile, h]
  | cons x s ih =>
    simp only [List.cons_append, List.takeWhile]
    cases p x <;> simp [ih]
theorem dropWhile_app {p : UInt8 → Bool} {s r : List UInt8} (h : r.head?.any p = false) : (s ++ r).dropWhile p = s.dropWhile p ++ r := by
  induction s with
  | nil =>
    cases r with
    | nil => rfl
    | cons x r => simp only [List.head?_cons, Option.any_some] at h; simp [List.dropWhile, h]
  | cons x s ih =>
    simp only [List.cons_append, List.dropWhile]
    cases p x <;> simp [ih]
theorem Stop.digit {r : List UInt8} (h : Stop r) : r.head?.any digit = false := by
  cases r with
  | nil => rfl
  | cons x r =>
    simp only [Stop, List.head?_cons, Option.any_some] at h ⊢
    cases hd : Po.digit x with
    | false => rfl
    | true => rw [digit_word hd] at h; cases h
theorem head_app {p : UInt8 → Bool} {s r : List UInt8} (h : r.head?.any p = false) : (s ++ r).head?.any p = s.head?.any p := by
  cases s with
  | nil => simpa using h
  | cons x s => rfl
theorem find_congr {p q : List UInt8 → Bool} : ∀ {os : List (List UInt8)}, (∀ o ∈ os, p o = q o) → os.find? p = os.find? q
  | [], _ => rfl
  | o :: os, h => by
    simp only [List.find?]
    rw [h o (by simp), find_congr (fun x hx => h x (by simp [hx]))]
theorem ops_app {c : UInt8} {s r : List UInt8} (hr : Ends r) : (ops.find? fun w => w.isPrefixOf (c :: s ++ r)) = ops.find? fun w => w.isPrefixOf (c :: s) := by
  refine find_congr fun o ho => ?_
  rcases hr with rfl | ⟨r, rfl⟩
  · rw [List.append_nil]
  · simp only [ops, List.mem_cons, List.not_mem_nil, or_false] at ho
    rcases ho with rfl | rfl | rfl | rfl | rfl | rfl | rfl | rfl | rfl | rfl | rfl | rfl | rfl | rfl | rfl <;>
      (cases s <;> simp [List.isPrefixOf])
theorem next_app {c : UInt8} {s r : List UInt8} {t : Tok} (hr : Ends r) (h : next (c :: s) = some t) : next (c :: s ++ r) = some t := by
  have h1 := takeWhile_app (s := c :: s) hr.stop
  have h2 := takeWhile_app (s := c :: s) hr.stop.digit
  have h3 := dropWhile_app (s := c :: s) hr.stop.digit
  have h4 := ops_app (c := c) (s := s) hr
  simp only [List.cons_append] at h1 h2 h3 h4
  simp only [List.cons_append, next] at h ⊢
  rw [h1, h2, h3, h4, head_app hr.stop]
  exact h
theorem lex_app {r : List UInt8} (hr : Ends r) : ∀ (n : Nat) (s : List UInt8) (l : List Tok), s.length ≤ n → lex s = some l → lex (s ++ r) = (lex r).map (l ++ ·)
  | _, [], l, _, h => by
    simp only [lex_nil, Option.some.injEq] at h
    subst h
    simp
  | 0, c :: s, l, hn, _ => by simp at hn
  | n + 1, c :: s, l, hn, h => by
    cases hb : blank c with
    | true =>
      rw [lex_blank hb] at h
      rw [List.cons_append, lex_blank hb]
      exact lex_app hr n s l (by simp at hn; omega) h
    | false =>
      cases ht : next (c :: s) with
      | none => rw [lex_none hb ht] at h; cases h
      | some t =>
        have hl := next_len1 ht
        rw [lex_step hb ht] at h
        simp only [Option.map_eq_some_iff] at h
        obtain ⟨m, hm, rfl⟩ := h
        have hlen : t.t.length ≤ (c :: s).length := by
          have hh : ∀ p : UInt8 → Bool, ((c :: s).takeWhile p).length ≤ (c :: s).length := fun p => (List.takeWhile_prefix p).length_le
          have h := ht
          simp only [next] at h
          split at h
          · split at h
            · cases h
            · simp at h; rw [← h]; exact hh word
          · split at h
            · split at h
              · simp at h; rw [← h]; exact hh digit
              · cases h
            · simp only [Option.map_eq_some_iff] at h
              obtain ⟨w, hw, rfl⟩ := h
              exact (List.isPrefixOf_iff_prefix.1 (by simpa using List.find?_some hw)).length_le
        have I := lex_app hr n ((c :: s).drop t.t.length) m (by rw [List.length_drop]; simp only [List.length_cons] at hn ⊢; omega) hm
        have hx := next_app hr ht
        rw [List.cons_append] at hx ⊢
        rw [lex_step hb hx, ← List.cons_append, List.drop_append_of_le_length hlen, I, Option.map_map]
        congr 1
/-! signs, words, numbers -/
theorem lex_sign {c : UInt8} {s w : List UInt8} (hb : blank c = false) (hl : letter c = false) (hd : digit c = false) (ho : (ops.find? fun w => w.isPrefixOf (c :: s)) = some w) : lex (c :: s) = (lex ((c :: s).drop w.length)).map (⟨3, w, 0⟩ :: ·) :=
  lex_step (t := ⟨3, w, 0⟩) hb (by simp [next, hl, hd, ho])
theorem lex_open (r : List UInt8) : lex (40 :: r) = (lex r).map (⟨3, [40], 0⟩ :: ·) := by
  rw [lex_sign (w := [40]) (by decide) (by decide) (by decide) (by simp [ops, List.find?, List.isPrefixOf])]; rfl
theorem lex_close (r : List UInt8) : lex (41 :: r) = (lex r).map (⟨3, [41], 0⟩ :: ·) := by
  rw [lex_sign (w := [41]) (by decide) (by decide) (by decide) (by simp [ops, List.find?, List.isPrefixOf])]; rfl
theorem lex_bang (r : List UInt8) : lex (33 :: r) = (lex r).map (⟨3, [33], 0⟩ :: ·) := by
  rw [lex_sign (w := [33]) (by decide) (by decide) (by decide) (by simp [ops, List.find?, List.isPrefixOf])]; rfl
theorem lex_and (r : List UInt8) : lex (38 :: 38 :: r) = (lex r).map (⟨3, [38, 38], 0⟩ :: ·) := by
  rw [lex_sign (w := [38, 38]) (by decide) (by decide) (by decide) (by simp [ops, List.find?, List.isPrefixOf])]; rfl
theorem lex_or (r : List UInt8) : lex (124 :: 124 :: r) = (lex r).map (⟨3, [124, 124], 0⟩ :: ·) := by
  rw [lex_sign (w := [124, 124]) (by decide) (by decide) (by decide) (by simp [ops, List.find?, List.isPrefixOf])]; rfl
theorem lex_eq (r : List UInt8) : lex (61 :: 61 :: r) = (lex r).map (⟨3, [61, 61], 0⟩ :: ·) := by
  rw [lex_sign (w := [61, 61]) (by decide) (by decide) (by decide) (by simp [ops, List.isPrefixOf])]; rfl
theorem lex_ge (r : List UInt8) : lex (62 :: 61 :: r) = (lex r).map (⟨3, [62, 61], 0⟩ :: ·) := by
  rw [lex_sign (w := [62, 61]) (by decide) (by decide) (by decide) (by simp [ops, List.find?, List.isPrefixOf])]; rfl
theorem lex_space (r : List UInt8) : lex (32 :: r) = lex r := lex_blank (by decide)
theorem takeWhile_all {p : UInt8 → Bool} : ∀ {s : List UInt8}, (∀ c ∈ s, p c = true) → s.takeWhile p = s
  | [], _ => rfl
  | c :: s, h => by simp only [List.takeWhile, h c (by simp)]; rw [takeWhile_all (fun x hx => h x (by simp [hx]))]
theorem dropWhile_all {p : UInt8 → Bool} : ∀ {s : List UInt8}, (∀ c ∈ s, p c = true) → s.dropWhile p = []
  | [], _ => rfl
  | c :: s, h => by simp only [List.dropWhile, h c (by simp)]; rw [dropWhile_all (fun x hx => h x (by simp [hx]))]
theorem letter_blank {c : UInt8} (h : letter c = true) : blank c = false := by
  simp only [letter, blank, Bool.or_eq_true, Bool.and_eq_true, decide_eq_true_eq, UInt8.le_iff_toNat_le, Bool.or_eq_false_iff, beq_eq_false_iff_ne, ne_eq, ← UInt8.toNat_inj] at *
  simp at *
  omega
theorem digit_blank {c : UInt8} (h : digit c = true) : blank c = false ∧ letter c = false := by
  simp only [letter, blank, digit, Bool.and_eq_true, decide_eq_true_eq, UInt8.le_iff_toNat_le, Bool.or_eq_false_iff, beq_eq_false_iff_ne, ne_eq, ← UInt8.toNat_inj, Bool.and_eq_false_iff, decide_eq_false_iff_not] at *
  simp at *
  omega
theorem lex_word {c : UInt8} {s r : List UInt8} (hl : letter c = true) (hw : ∀ x ∈ c :: s, word x = true) (hn : (c :: s).length ≤ 12) (hr : Stop r) : lex (c :: s ++ r) = (lex r).map (⟨1, c :: s, 0⟩ :: ·) := by
  have e := (takeWhile_app (s := c :: s) hr).trans (takeWhile_all hw)
  have : next (c :: s ++ r) = some ⟨1, c :: s, 0⟩ := by
    simp only [List.cons_append] at e ⊢
    simp only [next, hl, if_true]
    rw [e, if_neg (by omega)]
  rw [List.cons_append] at this ⊢
  rw [lex_step (letter_blank hl) this, ← List.cons_append, List.drop_left]
theorem dec_step (n : Nat) : dec n = if n ≤ 9 then [UInt8.ofNat (48 + n)] else dec (n / 10) ++ [UInt8.ofNat (48 + n % 10)] := by rw [dec]
theorem dec_all (n : Nat) : ∀ c ∈ dec n, digit c = true := by
  induction n using Nat.strongRecOn with
  | _ n ih =>
    rw [dec_step]
    have hd : ∀ k, k ≤ 9 → digit (UInt8.ofNat (48 + k)) = true := by decide
    split
    · intro c hc; rw [List.mem_singleton.1 hc]; exact hd n (by assumption)
    · intro c hc
      rcases List.mem_append.1 hc with hc | hc
      · exact ih (n / 10) (by omega) c hc
      · rw [List.mem_singleton.1 hc]; exact hd (n % 10) (by omega)
theorem value_app1 (w : List UInt8) (c : UInt8) : value (w ++ [c]) = 10 * value w + (c.toNat - 48) := by simp [value, List.foldl_append]
theorem digit_val : ∀ k, k ≤ 9 → (UInt8.ofNat (48 + k)).toNat - 48 = k := by decide
theorem value_dec (n : Nat) : value (dec n) = n := by
  induction n using Nat.strongRecOn with
  | _ n ih =>
    rw [dec_step]
    split
    · have := digit_val n (by assumption)
      rw [show value [UInt8.ofNat (48 + n)] = 10 * value [] + ((UInt8.ofNat (48 + n)).toNat - 48) from value_app1 [] _, this]
      simp [value]
    · rw [value_app1, ih (n / 10) (by omega), digit_val _ (by omega)]
      omega
theorem dec_ne (n : Nat) : dec n ≠ [] := by
  rw [dec_step]; split <;> simp
theorem dec_len : ∀ (k n : Nat), n < 10 ^ (k + 1) → (dec n).length ≤ k + 1
  | 0, n, h => by rw [dec_step, if_pos (by simp at h; omega)]; simp
  | k + 1, n, h => by
    rw [dec_step]
    split
    · simp
    · have := dec_len k (n / 10) (by rw [Nat.pow_succ] at h; omega)
      simp; omega
theorem head_snoc {s : List UInt8} (h : s ≠ []) (c : UInt8) : (s ++ [c]).head? = s.head? := by
  cases s with
  | nil => exact absurd rfl h
  | cons x s => rfl
theorem dec_lead (n : Nat) (h : 0 < n) : (dec n).head? ≠ some 48 := by
  induction n using Nat.strongRecOn with
  | _ n ih =>
    rw [dec_step]
    split
    · have : ∀ k, k ≤ 9 → 0 < k → [UInt8.ofNat (48 + k)].head? ≠ some 48 := by decide
      exact this n (by assumption) h
    · rw [head_snoc (dec_ne _)]
      exact ih (n / 10) (by omega) (by omega)
theorem dec_ok {n : Nat} (h : n < 65536) : numOK (dec n) = true := by
  simp only [numOK, Bool.and_eq_true, decide_eq_true_eq, value_dec, Bool.not_eq_true', Bool.and_eq_false_iff, beq_eq_false_iff_ne, decide_eq_false_iff_not]
  refine ⟨⟨dec_len 4 n (by omega), ?_⟩, h⟩
  rcases Nat.eq_zero_or_pos n with rfl | hp
  · right; rw [dec_step]; simp
  · left; exact dec_lead n hp
theorem lex_num {n : Nat} {r : List UInt8} (h : n < 65536) (hr : Stop r) : lex (dec n ++ r) = (lex r).map (⟨2, dec n, n⟩ :: ·) := by
  have hd := dec_all n
  have hk := dec_ok h
  have hv := value_dec n
  have hz := dec_ne n
  revert hd hk hv hz
  generalize dec n = w
  intro hd hk hv hz
  cases w with
  | nil => exact absurd rfl hz
  | cons c s =>
    have e := (takeWhile_app (s := c :: s) hr.digit).trans (takeWhile_all hd)
    have e2 := dropWhile_app (s := c :: s) hr.digit
    rw [dropWhile_all hd, List.nil_append] at e2
    have hc := digit_blank (hd c (by simp))
    have : next (c :: s ++ r) = some ⟨2, c :: s, n⟩ := by
      simp only [List.cons_append] at e e2 ⊢
      have hr' : r.head?.any word = false := hr
      simp only [next, hc.2, hd c (by simp), if_true, Bool.false_eq_true, if_false]
      rw [e, e2, hk, hr', hv]
      rfl
    rw [List.cons_append] at this ⊢
    rw [lex_step hc.1 this, ← List.cons_append, List.drop_left]
end Po
end Go.Proofs.YtdeccekeknlnoaaGreatDoor

namespace Go.Proofs.YtdeccekeknlnoaaGreatDoor
namespace Po
def Sg (w : List UInt8) : Tok := ⟨3, w, 0⟩
def Wd (w : List UInt8) : Tok := ⟨1, w, 0⟩
def Nm (n : Nat) : Tok := ⟨2, dec n, n⟩
def hx (b : Nat) : List UInt8 := [hexc (b / 16), hexc (b % 16)]
def hx4 (a b c d : Nat) : List UInt8 := 120 :: (hx a ++ hx b ++ hx c ++ hx d)
def tkHex : List Nat → List Tok
  | a :: b :: c :: d :: l => Wd (hx4 a b c d) :: tkHex l
  | _ => []
def tkNd (n : Nd) : List Tok := match n.k with
  | 1 => [Wd (str "any")]
  | 2 => [Wd (str "version"), Sg [61, 61], Nm n.n]
  | 3 => [Wd (str "version"), Sg [62, 61], Nm n.n]
  | 4 => [Wd (str "epoch"), Sg [61, 61], Nm n.n]
  | 5 => [Wd (str "epoch"), Sg [62, 61], Nm n.n]
  | 6 => Wd (str "stage") :: Nm n.n :: Wd (str "is") :: tkHex n.dg
  | _ => [Wd (str "point"), Nm n.n, Nm n.m, Wd (str "took"), Wd (if n.side = 1 then str "true" else str "false")]
def tkT : T → List Tok
  | .at n => tkNd n
  | .no t => Sg [33] :: tkT t
  | .an a b => Sg [40] :: (tkT a ++ (Sg [38, 38] :: (tkT b ++ [Sg [41]])))
  | .or a b => Sg [40] :: (tkT a ++ (Sg [124, 124] :: (tkT b ++ [Sg [41]])))
structure Canon (n : Nd) : Prop where
  of : n.of = []
  nb : n.n < 65536
  mb : n.m < 65536
  dl : n.dg.length = 16
  db : ∀ b ∈ n.dg, b < 256
  c : (n.k = 1 ∧ n.n = 0 ∧ n.m = 0 ∧ n.side = 0 ∧ n.dg = zero16) ∨ ((n.k = 2 ∨ n.k = 3 ∨ n.k = 4 ∨ n.k = 5) ∧ n.m = 0 ∧ n.side = 0 ∧ n.dg = zero16) ∨ (n.k = 6 ∧ n.m = 0 ∧ n.side = 0) ∨ (n.k = 7 ∧ (n.side = 1 ∨ n.side = 2) ∧ n.dg = zero16)
def T.can : T → Prop
  | .at n => Canon n
  | .no t => t.can
  | .an a b => a.can ∧ b.can
  | .or a b => a.can ∧ b.can
theorem Canon.ok {n : Nd} (h : Canon n) : 1 ≤ n.k ∧ n.k < 8 := by
  have := h.c
  omega
theorem T.can.ok : ∀ {t : T}, t.can → t.ok
  | .at _, h => Canon.ok h
  | .no t, h => can.ok (t := t) h
  | .an a b, h => ⟨can.ok (t := a) h.1, can.ok (t := b) h.2⟩
  | .or a b, h => ⟨can.ok (t := a) h.1, can.ok (t := b) h.2⟩
/-! lexing -/
def Lx (s : List UInt8) (l : List Tok) : Prop := ∀ r, Stop r → lex (s ++ r) = (lex r).map (l ++ ·)
/-- whatever follows -/
def LxA (s : List UInt8) (l : List Tok) : Prop := ∀ r, lex (s ++ r) = (lex r).map (l ++ ·)
theorem map_map_app (o : Option (List Tok)) (l m : List Tok) : (o.map (m ++ ·)).map (l ++ ·) = o.map ((l ++ m) ++ ·) := by
  cases o <;> simp
theorem LxA.lx {s : List UInt8} {l : List Tok} (h : LxA s l) : Lx s l := fun r _ => h r
theorem Lx.app {s s' : List UInt8} {l l' : List Tok} (h : Lx s l) (h' : Lx s' l') (hs : ∀ r, Stop r → Stop (s' ++ r)) : Lx (s ++ s') (l ++ l') := fun r hr => by
  rw [List.append_assoc, h _ (hs r hr), h' r hr, map_map_app]
theorem LxA.app {s s' : List UInt8} {l l' : List Tok} (h : LxA s l) (h' : Lx s' l') : Lx (s ++ s') (l ++ l') := fun r hr => by
  rw [List.append_assoc, h, h' r hr, map_map_app]
theorem LxA.appA {s s' : List UInt8} {l l' : List Tok} (h : LxA s l) (h' : LxA s' l') : LxA (s ++ s') (l ++ l') := fun r => by
  rw [List.append_assoc, h, h' r, map_map_app]
theorem stop_cons {c : UInt8} {s : List UInt8} (h : word c = false) : ∀ r, Stop r → Stop ((c :: s) ++ r) := fun _ _ => by
  simp only [Stop, List.cons_append, List.head?_cons, Option.any_some]; exact h
def wordy (w : List UInt8) : Bool := w.head?.any letter && w.all word && decide (w.length ≤ 12)
theorem lx_word {w : List UInt8} (h : wordy w = true) : Lx w [Wd w] := fun r hr => by
  cases w with
  | nil => simp [wordy] at h
  | cons c s =>
    simp only [wordy, List.head?_cons, Option.any_some, Bool.and_eq_true, decide_eq_true_eq, List.all_eq_true] at h
    exact lex_word h.1.1 h.1.2 h.2 hr
theorem lx_num {n : Nat} (h : n < 65536) : Lx (dec n) [Nm n] := fun _ hr => lex_num h hr
theorem lxa_space : LxA [32] [] := fun r => by
  rw [List.singleton_append, lex_space]; cases lex r <;> rfl
theorem lxa_eq : LxA [32, 61, 61, 32] [Sg [61, 61]] := fun r => by
  simp only [List.cons_append, List.nil_append, lex_space, lex_eq]; rfl
theorem lxa_ge : LxA [32, 62, 61, 32] [Sg [62, 61]] := fun r => by
  simp only [List.cons_append, List.nil_append, lex_space, lex_ge]; rfl
theorem lxa_and : LxA [32, 38, 38, 32] [Sg [38, 38]] := fun r => by
  simp only [List.cons_append, List.nil_append, lex_space, lex_and]; rfl
theorem lxa_or : LxA [32, 124, 124, 32] [Sg [124, 124]] := fun r => by
  simp only [List.cons_append, List.nil_append, lex_space, lex_or]; rfl
theorem lxa_open : LxA [40] [Sg [40]] := fun r => by
  simp only [List.cons_append, List.nil_append, lex_open]; rfl
theorem lxa_close : LxA [41] [Sg [41]] := fun r => by
  simp only [List.cons_append, List.nil_append, lex_close]; rfl
theorem lxa_bang : LxA [33] [Sg [33]] := fun r => by
  simp only [List.cons_append, List.nil_append, lex_bang]; rfl
theorem hexF_four : ∀ (l : List Nat) (i : Nat), hexF (i + 4) l = hexF i l
  | [], i => rfl
  | b :: l, i => by
    simp only [hexF]
    rw [show i + 4 + 1 = i + 1 + 4 by omega, hexF_four l (i + 1), show (i + 4) % 4 = i % 4 by omega]
theorem hexF_row (a b c d : Nat) (l : List Nat) : hexF 0 (a :: b :: c :: d :: l) = [32] ++ (hx4 a b c d ++ hexF 0 l) := by
  have := hexF_four l 0
  simp only [Nat.zero_add] at this
  simp [hexF, hx4, hx, this]
theorem hexc_word : ∀ n, n < 16 → word (hexc n) = true := by decide
theorem hex_stop (l : List Nat) (hl : l.length % 4 = 0) : ∀ r, Stop r → Stop (hexF 0 l ++ r) := by
  cases l with
  | nil => intro r hr; exact hr
  | cons a l => intro r _; simp only [hexF, Nat.zero_mod, if_true, List.cons_append, Stop, List.head?_cons, Option.any_some]; decide
theorem lx_hex : ∀ (l : List Nat), l.length % 4 = 0 → (∀ b ∈ l, b < 256) → Lx (hexF 0 l) (tkHex l)
  | [], _, _ => fun r _ => by simp [hexF, tkHex]
  | [_], h, _ => by simp at h
  | [_, _], h, _ => by simp at h
  | [_, _, _], h, _ => by simp at h
  | a :: b :: c :: d :: l, h, hb => by
    have hl : l.length % 4 = 0 := by simp at h; omega
    have I := lx_hex l hl (fun x hx => hb x (by simp [hx]))
    rw [hexF_row]
    have hw : wordy (hx4 a b c d) = true := by
      have ha := hb a (by simp)
      have hb' := hb b (by simp)
      have hc := hb c (by simp)
      have hd := hb d (by simp)
      have h1 := fun (n : Nat) (h : n < 256) => hexc_word (n / 16) (by omega)
      have h2 := fun (n : Nat) (_ : n < 256) => hexc_word (n % 16) (by omega)
      simp only [wordy, hx4, hx, List.head?_cons, Option.any_some, Bool.and_eq_true, List.all_eq_true, List.cons_append, List.nil_append, List.mem_cons, List.not_mem_nil, or_false]
      refine ⟨⟨by decide, fun x hx => ?_⟩, by simp⟩
      rcases hx with rfl | rfl | rfl | rfl | rfl | rfl | rfl | rfl | rfl
      · decide
      · exact h1 _ ha
      · exact h2 _ ha
      · exact h1 _ hb'
      · exact h2 _ hb'
      · exact h1 _ hc
      · exact h2 _ hc
      · exact h1 _ hd
      · exact h2 _ hd
    exact lxa_space.app ((lx_word hw).app I (hex_stop l hl))
theorem str_parts : str "any" = [97, 110, 121] ∧ str "version" = [118, 101, 114, 115, 105, 111, 110] ∧ str "epoch" = [101, 112, 111, 99, 104] ∧ str "stage" = [115, 116, 97, 103, 101] ∧ str "is" = [105, 115] ∧ str "point" = [112, 111, 105, 110, 116] ∧ str "took" = [116, 111, 111, 107] ∧ str "true" = [116, 114, 117, 101] ∧ str "false" = [102, 97, 108, 115, 101] := by decide +kernel
theorem str_longs : str "version == " = str "version" ++ [32, 61, 61, 32] ∧ str "version >= " = str "version" ++ [32, 62, 61, 32] ∧ str "epoch == " = str "epoch" ++ [32, 61, 61, 32] ∧ str "epoch >= " = str "epoch" ++ [32, 62, 61, 32] ∧ str "stage " = str "stage" ++ [32] ∧ str " is" = [32] ++ str "is" ∧ str "point " = str "point" ++ [32] ∧ str " " = [32] ∧ str " took " = [32] ++ (str "took" ++ [32]) ∧ str "!" = [33] ∧ str "(" = [40] ∧ str ")" = [41] ∧ str " && " = [32, 38, 38, 32] ∧ str " || " = [32, 124, 124, 32] := by decide +kernel
theorem str_wordy : wordy (str "any") = true ∧ wordy (str "version") = true ∧ wordy (str "epoch") = true ∧ wordy (str "stage") = true ∧ wordy (str "is") = true ∧ wordy (str "point") = true ∧ wordy (str "took") = true ∧ wordy (str "true") = true ∧ wordy (str "false") = true := by decide +kernel
theorem lx_leaf {n : Nd} (h : Canon n) : Lx (textNd n []) (tkNd n) := by
  obtain ⟨w1, w2, w3, w4, w5, w6, w7, w8, w9⟩ := str_wordy
  obtain ⟨l1, l2, l3, l4, l5, l6, l7, l8, l9, -⟩ := str_longs
  have hn := lx_num h.nb
  have hm := lx_num h.mb
  have hk := h.c
  have : n.k = 1 ∨ n.k = 2 ∨ n.k = 3 ∨ n.k = 4 ∨ n.k = 5 ∨ n.k = 6 ∨ n.k = 7 := by omega
  unfold textNd tkNd
  rcases this with e | e | e | e | e | e | e <;> rw [e] <;> simp only
  · exact lx_word w1
  · rw [l1, List.append_assoc]; exact (lx_word w2).app (lxa_eq.app hn) (stop_cons (by decide))
  · rw [l2, List.append_assoc]; exact (lx_word w2).app (lxa_ge.app hn) (stop_cons (by decide))
  · rw [l3, List.append_assoc]; exact (lx_word w3).app (lxa_eq.app hn) (stop_cons (by decide))
  · rw [l4, List.append_assoc]; exact (lx_word w3).app (lxa_ge.app hn) (stop_cons (by decide))
  · rw [l5, l6]
    simp only [List.append_assoc]
    have hd := lx_hex n.dg (by rw [h.dl]) h.db
    have := hex_stop n.dg (by rw [h.dl])
    exact (lx_word w4).app (lxa_space.app (hn.app (lxa_space.app ((lx_word w5).app hd this)) (stop_cons (by decide)))) (stop_cons (by decide))
  · rw [l7, l8, l9]
    simp only [List.append_assoc]
    have hs : Lx (if n.side = 1 then str "true" else str "false") [Wd (if n.side = 1 then str "true" else str "false")] := by
      split
      · exact lx_word w8
      · exact lx_word w9
    exact (lx_word w6).app (lxa_space.app (hn.app (lxa_space.app (hm.app (lxa_space.app ((lx_word w7).app (lxa_space.app hs) (stop_cons (by decide)))) (stop_cons (by decide)))) (stop_cons (by decide)))) (stop_cons (by decide))
theorem lx_tree : ∀ (t : T), t.can → Lx (txT t) (tkT t)
  | .at n, h => lx_leaf h
  | .no t, h => by
    simp only [txT, tkT]
    rw [str_longs.2.2.2.2.2.2.2.2.2.1]
    exact lxa_bang.app (lx_tree t h)
  | .an a b, h => by
    simp only [txT, tkT]
    obtain ⟨-, -, -, -, -, -, -, -, -, -, e1, e2, e3, -⟩ := str_longs
    rw [e1, e2, e3]
    simp only [List.append_assoc]
    exact lxa_open.app ((lx_tree a h.1).app (lxa_and.app ((lx_tree b h.2).app lxa_close.lx (stop_cons (by decide)))) (stop_cons (by decide)))
  | .or a b, h => by
    simp only [txT, tkT]
    obtain ⟨-, -, -, -, -, -, -, -, -, -, e1, e2, -, e3⟩ := str_longs
    rw [e1, e2, e3]
    simp only [List.append_assoc]
    exact lxa_open.app ((lx_tree a h.1).app (lxa_or.app ((lx_tree b h.2).app lxa_close.lx (stop_cons (by decide)))) (stop_cons (by decide)))
theorem lex_tree (t : T) (h : t.can) : lex (txT t) = some (tkT t) := by
  have := lx_tree t h [] rfl
  rw [List.append_nil, lex_nil] at this
  rw [this]; simp
end Po
end Go.Proofs.YtdeccekeknlnoaaGreatDoor

namespace Go.Proofs.YtdeccekeknlnoaaGreatDoor
namespace Po
def exA : List UInt8 := [118, 101, 114, 115, 105, 111, 110, 32, 62, 61, 32, 50, 32, 38, 38, 32, 33, 112, 111, 105, 110, 116, 32, 48, 32, 49, 32, 116, 111, 111, 107, 32, 116, 114, 117, 101]
def exB : List UInt8 := [118, 101, 114, 115, 105, 111, 110, 32, 62, 32, 50]
def exC : List UInt8 := [115, 116, 97, 103, 101, 32, 48, 32, 105, 115, 32, 120, 48, 48, 49, 49, 50, 50, 51, 51, 32, 120, 52, 52, 53, 53, 54, 54, 55, 55, 32, 120, 56, 56, 57, 57, 97, 97, 98, 98, 32, 120, 99, 99, 100, 100, 101, 101, 102, 102]
def exN : List Nd := [⟨3, 2, 0, 0, zero16, []⟩, ⟨7, 0, 1, 1, zero16, []⟩, ⟨8, 0, 0, 0, zero16, [1]⟩, ⟨9, 0, 0, 0, zero16, [0, 2]⟩]
theorem ex_a : parse exA = (exN, 0) := by decide +kernel
theorem ex_b : parse exB = ([], 3) := by decide +kernel
theorem ex_c : (parse exC).2 = 0 := by decide +kernel
theorem ex_1 : eval exN ⟨2, 0, [], [[3, 2]]⟩ = 1 := by decide +kernel
theorem ex_2 : eval exN ⟨2, 0, [], [[3, -1]]⟩ = -1 := by decide +kernel
theorem ex_3 : eval exN ⟨1, 0, [], [[3, -1]]⟩ = 0 := by decide +kernel
theorem ex_p : points exN = [(0, 1)] := by decide +kernel
theorem ex_t : text exN = [40, 118, 101, 114, 115, 105, 111, 110, 32, 62, 61, 32, 50, 32, 38, 38, 32, 33, 112, 111, 105, 110, 116, 32, 48, 32, 49, 32, 116, 111, 111, 107, 32, 116, 114, 117, 101, 41] := by decide +kernel
end Po
end Go.Proofs.YtdeccekeknlnoaaGreatDoor

namespace Go.Proofs.YtdeccekeknlnoaaGreatDoor
namespace Po
theorem P_nodes : ∀ (f lv : Nat) (l : List Tok) (o : List Nd) (l' : List Tok) (o' : List Nd), P f lv l o = some (some (l', o')) → o'.length + l'.length ≤ o.length + l.length
  | 0, _, _, _, _, _, h => by simp [P] at h
  | f + 1, lv, l, o, l', o', h => by
    have I := P_nodes f
    simp only [P] at h
    by_cases c0 : lv = 0
    · subst c0
      simp only [if_true] at h
      cases h1 : P f 1 l o with
      | none => simp [h1] at h
      | some r => cases r with
        | none => simp [h1] at h
        | some x =>
          obtain ⟨x1, x2⟩ := x
          simp only [h1] at h
          have a := I _ _ _ _ _ h1
          have b := I _ _ _ _ _ h
          simp at a b ⊢
          omega
    · simp only [if_neg c0] at h
      by_cases c1 : lv = 1
      · subst c1
        simp only [if_true] at h
        cases h1 : P f 2 l o with
        | none => simp [h1] at h
        | some r => cases r with
          | none => simp [h1] at h
          | some x =>
            obtain ⟨x1, x2⟩ := x
            simp only [h1] at h
            have a := I _ _ _ _ _ h1
            have b := I _ _ _ _ _ h
            simp at a b ⊢
            omega
      · simp only [if_neg c1] at h
        by_cases c3 : lv = 3
        · subst c3
          simp only [if_true] at h
          split at h
          · rename_i ht
            have := isT_len ht
            cases h1 : P f 1 l.tail o with
            | none => simp [h1] at h
            | some r => cases r with
              | none => simp [h1] at h
              | some x =>
                obtain ⟨x1, x2⟩ := x
                simp only [h1] at h
                have a := I _ _ _ _ _ h1
                have b := I _ _ _ _ _ h
                simp only [List.length_append, List.length_singleton] at a b ⊢
                omega
          · simp at h
            rw [h.1, h.2]; exact Nat.le_refl _
        · simp only [if_neg c3] at h
          by_cases c4 : lv = 4
          · subst c4
            simp only [if_true] at h
            split at h
            · rename_i ht
              have := isT_len ht
              cases h1 : P f 2 l.tail o with
              | none => simp [h1] at h
              | some r => cases r with
                | none => simp [h1] at h
                | some x =>
                  obtain ⟨x1, x2⟩ := x
                  simp only [h1] at h
                  have a := I _ _ _ _ _ h1
                  have b := I _ _ _ _ _ h
                  simp only [List.length_append, List.length_singleton] at a b ⊢
                  omega
            · simp at h
              rw [h.1, h.2]; exact Nat.le_refl _
          · simp only [if_neg c4] at h
            split at h
            · rename_i ht
              have := isT_len ht
              cases h1 : P f 2 l.tail o with
              | none => simp [h1] at h
              | some r => cases r with
                | none => simp [h1] at h
                | some x =>
                  obtain ⟨x1, x2⟩ := x
                  simp only [h1] at h
                  have a := I _ _ _ _ _ h1
                  simp at h
                  rw [← h.1, ← h.2]
                  simp only [List.length_append, List.length_singleton]
                  omega
            · split at h
              · rename_i ht
                have := isT_len ht
                cases h1 : P f 0 l.tail o with
                | none => simp [h1] at h
                | some r => cases r with
                  | none => simp [h1] at h
                  | some x =>
                    obtain ⟨x1, x2⟩ := x
                    simp only [h1] at h
                    have a := I _ _ _ _ _ h1
                    cases h2 : must 3 [41] x1 with
                    | none => simp [h2] at h
                    | some y =>
                      obtain ⟨y, r2⟩ := y
                      have := must_len h2
                      simp [h2] at h
                      rw [← h.1, ← h.2]; omega
              · cases h2 : atom l with
                | none => simp [h2] at h
                | some y =>
                  obtain ⟨y, r2⟩ := y
                  have := atom_len h2
                  simp [h2] at h
                  rw [← h.1, ← h.2]
                  simp only [List.length_append, List.length_singleton]
                  omega
/-- what follows a run -/
def bindP (r : Option (Option (List Tok × List Nd))) (g : List Tok × List Nd → Option (Option (List Tok × List Nd))) : Option (Option (List Tok × List Nd)) := match r with
  | some (some x) => g x
  | r => r
theorem P_bang {f : Nat} {l : List Tok} {o : List Nd} (hb : isT l 3 [33] = true) : P (f + 1) 2 l o = bindP (P f 2 l.tail o) fun x => some (some (x.1, x.2 ++ [⟨8, 0, 0, 0, zero16, [x.2.length - 1]⟩])) := by
  simp only [P]
  rw [if_neg (by decide), if_neg (by decide), if_neg (by decide), if_neg (by decide), if_pos hb]
  rfl
theorem P_paren {f : Nat} {l : List Tok} {o : List Nd} (hb : isT l 3 [33] = false) (hc : isT l 3 [40] = true) : P (f + 1) 2 l o = bindP (P f 0 l.tail o) fun x => some ((must 3 [41] x.1).map fun y => (y.2, x.2)) := by
  simp only [P]
  rw [if_neg (by decide), if_neg (by decide), if_neg (by decide), if_neg (by decide), if_neg (by rw [hb]; decide), if_pos hc]
  rfl
theorem P_atom {f : Nat} {l : List Tok} {o : List Nd} (hb : isT l 3 [33] = false) (hc : isT l 3 [40] = false) : P (f + 1) 2 l o = some ((atom l).map fun x => (x.2, o ++ [x.1])) := by
  simp only [P]
  rw [if_neg (by decide), if_neg (by decide), if_neg (by decide), if_neg (by decide), if_neg (by rw [hb]; decide), if_neg (by rw [hc]; decide)]
theorem P_or {f : Nat} {l : List Tok} {o : List Nd} : P (f + 1) 0 l o = bindP (P f 1 l o) fun x => P f 3 x.1 x.2 := by
  simp only [P]
  rw [if_pos (by first | trivial | rfl)]
  rfl
theorem P_and {f : Nat} {l : List Tok} {o : List Nd} : P (f + 1) 1 l o = bindP (P f 2 l o) fun x => P f 4 x.1 x.2 := by
  simp only [P]
  rw [if_neg (by decide), if_pos (by first | trivial | rfl)]
  rfl
theorem P_more3 {f : Nat} {l : List Tok} {o : List Nd} (h : isT l 3 [124, 124] = true) : P (f + 1) 3 l o = bindP (P f 1 l.tail o) fun x => P f 3 x.1 (x.2 ++ [⟨10, 0, 0, 0, zero16, [o.length - 1, x.2.length - 1]⟩]) := by
  simp only [P]
  rw [if_neg (by decide), if_neg (by decide), if_pos (by first | trivial | rfl), if_pos h]
  rfl
theorem P_more4 {f : Nat} {l : List Tok} {o : List Nd} (h : isT l 3 [38, 38] = true) : P (f + 1) 4 l o = bindP (P f 2 l.tail o) fun x => P f 4 x.1 (x.2 ++ [⟨9, 0, 0, 0, zero16, [o.length - 1, x.2.length - 1]⟩]) := by
  simp only [P]
  rw [if_neg (by decide), if_neg (by decide), if_neg (by decide), if_pos (by first | trivial | rfl), if_pos h]
  rfl
theorem P_stop3 {f : Nat} {l : List Tok} {o : List Nd} (h : isT l 3 [124, 124] = false) : P (f + 1) 3 l o = some (some (l, o)) := by
  simp only [P]
  rw [if_neg (by decide), if_neg (by decide), if_pos (by first | trivial | rfl), if_neg (by rw [h]; decide)]
theorem P_stop4 {f : Nat} {l : List Tok} {o : List Nd} (h : isT l 3 [38, 38] = false) : P (f + 1) 4 l o = some (some (l, o)) := by
  simp only [P]
  rw [if_neg (by decide), if_neg (by decide), if_neg (by decide), if_pos (by first | trivial | rfl), if_neg (by rw [h]; decide)]
theorem compare_of {a b : Nat} {l r : List Tok} {x : Nd} (h : compare a b l = some (x, r)) : x.of = [] := by
  unfold compare at h
  split at h
  · simp only [Option.map_eq_some_iff] at h
    obtain ⟨y, _, h⟩ := h
    simp only [Prod.mk.injEq] at h
    rw [← h.1]
  · simp only [Option.bind_eq_some_iff, Option.map_eq_some_iff] at h
    obtain ⟨z, _, y, _, h⟩ := h
    simp only [Prod.mk.injEq] at h
    rw [← h.1]
theorem atom_of {l r : List Tok} {x : Nd} (h : atom l = some (x, r)) : x.of = [] := by
  unfold atom at h
  simp only [Option.bind_eq_some_iff] at h
  obtain ⟨a, _, h⟩ := h
  split at h
  · simp only [Option.some.injEq, Prod.mk.injEq] at h; rw [← h.1]
  · split at h
    · exact compare_of h
    · split at h
      · exact compare_of h
      · split at h
        · simp only [Option.bind_eq_some_iff, Option.map_eq_some_iff] at h
          obtain ⟨b, _, c, _, d, _, h⟩ := h
          simp only [Prod.mk.injEq] at h
          rw [← h.1]
        · split at h
          · simp only [Option.bind_eq_some_iff] at h
            obtain ⟨b, _, c, _, d, _, h⟩ := h
            split at h
            · simp only [Option.some.injEq, Prod.mk.injEq] at h; rw [← h.1]
            · simp only [Option.map_eq_some_iff] at h
              obtain ⟨u, _, h⟩ := h
              simp only [Prod.mk.injEq] at h
              rw [← h.1]
          · cases h
theorem ok_not {i a : Nat} (h : a < i) : OkNd i ⟨8, 0, 0, 0, zero16, [a]⟩ :=
  ⟨by simp only; omega, by simp only; omega, by simp only; omega, by simp only; omega, fun h => by simp at h, by simp only; omega, rfl, zero16_lt, fun h => by simp at h, fun _ => ⟨a, rfl, h⟩, fun h => by simp at h⟩
theorem ok_bin {i k a b : Nat} (hk : k = 9 ∨ k = 10) (ha : a < i) (hb : b < i) : OkNd i ⟨k, 0, 0, 0, zero16, [a, b]⟩ := by
  rcases hk with rfl | rfl
  · exact ⟨by simp only; omega, by simp only; omega, by simp only; omega, by simp only; omega, fun h => by simp at h, by simp only; omega, rfl, zero16_lt, fun h => by simp at h, fun h => by simp at h, fun _ => ⟨a, b, rfl, ha, hb⟩⟩
  · exact ⟨by simp only; omega, by simp only; omega, by simp only; omega, by simp only; omega, fun h => by simp at h, by simp only; omega, rfl, zero16_lt, fun h => by simp at h, fun h => by simp at h, fun _ => ⟨a, b, rfl, ha, hb⟩⟩
end Po
end Go.Proofs.YtdeccekeknlnoaaGreatDoor
