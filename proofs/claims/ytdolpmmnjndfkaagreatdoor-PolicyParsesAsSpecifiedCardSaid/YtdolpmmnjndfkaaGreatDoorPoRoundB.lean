/- Chapter 29, plain: a printed policy is parsed to what it was. -/
import Derived.Test.YtdolpmmnjndfkaaGreatDoorPoPl
import Derived.Test.YtdolpmmnjndfkaaGreatDoorPoLexOk
namespace Go.Proofs.YtdolpmmnjndfkaaGreatDoor
namespace Po
theorem atom_canon {l r : List Tok} {x : Nd} (hl : OkToks l) (h : atom l = some (x, r)) : Canon x := by
  have hk := (atom_ok (i := 0) hl h).2
  have hlf := atom_leaf hl h
  refine ⟨hk.leaf hlf.2, hk.nb, hk.mb, hk.dg, hk.dgb, ?_⟩
  clear hk hlf hl
  have hcmp : ∀ {a b : Nat} {l r : List Tok}, compare a b l = some (x, r) → (x.k = a ∨ x.k = b) ∧ x.m = 0 ∧ x.side = 0 ∧ x.dg = zero16 := by
    intro a b l r h
    unfold compare at h
    split at h
    · simp only [Option.map_eq_some_iff] at h
      obtain ⟨y, _, h⟩ := h
      simp only [Prod.mk.injEq] at h
      rw [← h.1]
      exact ⟨.inl rfl, rfl, rfl, rfl⟩
    · simp only [Option.bind_eq_some_iff, Option.map_eq_some_iff] at h
      obtain ⟨z, _, y, _, h⟩ := h
      simp only [Prod.mk.injEq] at h
      rw [← h.1]
      exact ⟨.inr rfl, rfl, rfl, rfl⟩
  unfold atom at h
  simp only [Option.bind_eq_some_iff] at h
  obtain ⟨a, _, h⟩ := h
  split at h
  · simp only [Option.some.injEq, Prod.mk.injEq] at h; rw [← h.1]; exact .inl ⟨rfl, rfl, rfl, rfl, rfl⟩
  split at h
  · obtain ⟨h1, h2⟩ := hcmp h
    exact .inr (.inl ⟨by omega, h2⟩)
  split at h
  · obtain ⟨h1, h2⟩ := hcmp h
    exact .inr (.inl ⟨by omega, h2⟩)
  split at h
  · simp only [Option.bind_eq_some_iff, Option.map_eq_some_iff] at h
    obtain ⟨b, _, c, _, d, _, h⟩ := h
    simp only [Prod.mk.injEq] at h
    rw [← h.1]
    exact .inr (.inr (.inl ⟨rfl, rfl, rfl⟩))
  split at h
  · simp only [Option.bind_eq_some_iff] at h
    obtain ⟨b, _, c, _, d, _, h⟩ := h
    split at h
    · simp only [Option.some.injEq, Prod.mk.injEq] at h; rw [← h.1]
      exact .inr (.inr (.inr ⟨rfl, .inl rfl, rfl⟩))
    · simp only [Option.map_eq_some_iff] at h
      obtain ⟨u, _, h⟩ := h
      simp only [Prod.mk.injEq] at h
      rw [← h.1]
      exact .inr (.inr (.inr ⟨rfl, .inr rfl, rfl⟩))
  · cases h
def CanP (x : List Tok × T) : Prop := OkToks x.1 ∧ x.2.can
theorem bindT_can {p : RT} {g : List Tok × T → RT} {y : List Tok × T} (h1 : ∀ x, p = some (some x) → CanP x) (h2 : ∀ x y, CanP x → g x = some (some y) → CanP y) (h : bindT p g = some (some y)) : CanP y := by
  rcases p with _ | _ | x
  · simp [bindT] at h
  · simp [bindT] at h
  · exact h2 x y (h1 x rfl) h
theorem PTstep_can {g : Nat → List Tok → T → RT} (hg : ∀ lv l a x, OkToks l → (lv = 3 ∨ lv = 4 → a.can) → g lv l a = some (some x) → CanP x) (lv : Nat) (l : List Tok) (a : T) (x) (hl : OkToks l) (ha : lv = 3 ∨ lv = 4 → a.can) (h : PTstep g lv l a = some (some x)) : CanP x := by
  unfold PTstep at h
  by_cases c0 : lv = 0
  · simp only [if_pos c0] at h
    exact bindT_can (fun x => hg 1 l a x hl (by omega)) (fun x y hx => hg 3 x.1 x.2 y hx.1 (fun _ => hx.2)) h
  simp only [if_neg c0] at h
  by_cases c1 : lv = 1
  · simp only [if_pos c1] at h
    exact bindT_can (fun x => hg 2 l a x hl (by omega)) (fun x y hx => hg 4 x.1 x.2 y hx.1 (fun _ => hx.2)) h
  simp only [if_neg c1] at h
  by_cases c3 : lv = 3
  · simp only [if_pos c3] at h
    by_cases t : isT l 3 [124, 124] = true
    · simp only [if_pos t] at h
      exact bindT_can (fun x => hg 1 l.tail a x hl.tail (by omega)) (fun x y hx => hg 3 x.1 (.or a x.2) y hx.1 (fun _ => ⟨ha (.inl c3), hx.2⟩)) h
    · simp only [if_neg t] at h
      simp only [Option.some.injEq] at h
      rw [← h]; exact ⟨hl, ha (.inl c3)⟩
  simp only [if_neg c3] at h
  by_cases c4 : lv = 4
  · simp only [if_pos c4] at h
    by_cases t : isT l 3 [38, 38] = true
    · simp only [if_pos t] at h
      exact bindT_can (fun x => hg 2 l.tail a x hl.tail (by omega)) (fun x y hx => hg 4 x.1 (.an a x.2) y hx.1 (fun _ => ⟨ha (.inr c4), hx.2⟩)) h
    · simp only [if_neg t] at h
      simp only [Option.some.injEq] at h
      rw [← h]; exact ⟨hl, ha (.inr c4)⟩
  simp only [if_neg c4] at h
  by_cases t : isT l 3 [33] = true
  · simp only [if_pos t] at h
    refine bindT_can (fun x => hg 2 l.tail a x hl.tail (by omega)) (fun x y hx h => ?_) h
    simp only [Option.some.injEq] at h
    rw [← h]; exact ⟨hx.1, hx.2⟩
  simp only [if_neg t] at h
  by_cases t2 : isT l 3 [40] = true
  · simp only [if_pos t2] at h
    refine bindT_can (fun x => hg 0 l.tail a x hl.tail (by omega)) (fun x y hx h => ?_) h
    simp only [Option.some.injEq, Option.map_eq_some_iff] at h
    obtain ⟨⟨z, r1⟩, h1, rfl⟩ := h
    exact ⟨(must_ok hx.1 h1).1, hx.2⟩
  simp only [if_neg t2] at h
  simp only [Option.some.injEq, Option.map_eq_some_iff] at h
  obtain ⟨⟨z, r1⟩, h1, rfl⟩ := h
  exact ⟨(atom_ok (i := 0) hl h1).1, atom_canon hl h1⟩
theorem PT_can : ∀ (f lv : Nat) (l : List Tok) (a : T) (x), OkToks l → (lv = 3 ∨ lv = 4 → a.can) → PT f lv l a = some (some x) → CanP x
  | 0, _, _, _, _, _, _, h => by simp [PT] at h
  | f + 1, lv, l, a, x, hl, ha, h => by
    rw [PT_succ] at h
    exact PTstep_can (PT_can f) _ _ _ _ hl ha h
/-! parsing of printed tokens -/
theorem must_wd (w : List UInt8) (r : List Tok) : must 1 w (Wd w :: r) = some (Wd w, r) := by simp [must, Wd]
theorem must_any (w : List UInt8) (r : List Tok) : must 1 [] (Wd w :: r) = some (Wd w, r) := by simp [must, Wd]
theorem must_nm (n : Nat) (r : List Tok) : must 2 [] (Nm n :: r) = some (Nm n, r) := by simp [must, Nm]
theorem must_sg (w : List UInt8) (r : List Tok) : must 3 w (Sg w :: r) = some (Sg w, r) := by simp [must, Sg]
theorem isT_sg (w v : List UInt8) (r : List Tok) (hv : v ≠ []) : isT (Sg w :: r) 3 v = (w == v) := by
  have : (v == []) = false := by cases v <;> simp_all
  simp [isT, Sg, this]
theorem isT_wd (w v : List UInt8) (r : List Tok) : isT (Wd w :: r) 3 v = false := by simp [isT, Wd]
theorem hexd_hexc : ∀ n, n < 16 → hexd (hexc n) = some n := by decide
theorem word4_hx (a b c d : Nat) (ha : a < 256) (hb : b < 256) (hc : c < 256) (hd : d < 256) : word4 (hx4 a b c d) = some [a, b, c, d] := by
  simp only [hx4, hx, word4, List.cons_append, List.nil_append, if_true]
  rw [hexd_hexc _ (by omega), hexd_hexc _ (by omega), hexd_hexc _ (by omega), hexd_hexc _ (by omega), hexd_hexc _ (by omega), hexd_hexc _ (by omega), hexd_hexc _ (by omega), hexd_hexc _ (by omega)]
  simp only [Option.bind_some, Option.map_some, Option.some.injEq, List.cons.injEq, and_true]
  omega
theorem digestF_hex : ∀ (k : Nat) (l : List Nat) (r : List Tok), l.length = 4 * k → (∀ b ∈ l, b < 256) → digestF k (tkHex l ++ r) = some (l, r)
  | 0, l, r, h, _ => by
    have : l = [] := List.eq_nil_of_length_eq_zero (by omega)
    subst this; rfl
  | k + 1, [], _, h, _ => by simp at h
  | k + 1, [_], _, h, _ => by simp at h; omega
  | k + 1, [_, _], _, h, _ => by simp at h; omega
  | k + 1, [_, _, _], _, h, _ => by simp at h; omega
  | k + 1, a :: b :: c :: d :: l, r, h, hb => by
    have I := digestF_hex k l r (by simp at h; omega) (fun x hx => hb x (by simp [hx]))
    simp only [tkHex, List.cons_append, digestF, must_any, Option.bind_some]
    have hw := word4_hx a b c d (hb a (by simp)) (hb b (by simp)) (hb c (by simp)) (hb d (by simp))
    rw [show (Wd (hx4 a b c d)).t = hx4 a b c d from rfl, hw]
    simp only [Option.bind_some, I, Option.map_some]
    simp
theorem atom_tk {n : Nd} (h : Canon n) (r : List Tok) : atom (tkNd n ++ r) = some (n, r) := by
  obtain ⟨s1, s2, s3, s4, s5, s6, s7, s8, s9⟩ := str_parts
  obtain ⟨k, nn, m, side, dg, of⟩ := n
  have ho := h.of
  have hd := h.dl
  have hb := h.db
  have hc := h.c
  simp only at ho hd hb hc
  subst ho
  have e : ∀ w v : List UInt8, (Wd w).t = v ↔ w = v := fun _ _ => Iff.rfl
  have en : ∀ n, (Nm n).n = n := fun _ => rfl
  rcases hc with ⟨rfl, rfl, rfl, rfl, rfl⟩ | ⟨hk, rfl, rfl, rfl⟩ | ⟨rfl, rfl, rfl⟩ | ⟨rfl, hk, rfl⟩
  · simp only [tkNd, List.cons_append, List.nil_append, atom, must_any, Option.bind_some, e, if_true]
  · rcases hk with rfl | rfl | rfl | rfl <;>
      simp [tkNd, atom, must_any, e, s1, s2, s3, compare, isT_sg, must_nm, must_sg, en]
  · have hx := digestF_hex 4 dg r hd hb
    simp only [tkNd, List.cons_append, atom, must_any, Option.bind_some, e]
    rw [if_neg (by rw [s4, s1]; decide), if_neg (by rw [s4, s2]; decide), if_neg (by rw [s4, s3]; decide), if_pos trivial]
    simp only [must_nm, must_wd, Option.bind_some, hx, Option.map_some, en]
  · simp only [tkNd, List.cons_append, List.nil_append, atom, must_any, Option.bind_some, e]
    rw [if_neg (by rw [s6, s1]; decide), if_neg (by rw [s6, s2]; decide), if_neg (by rw [s6, s3]; decide), if_neg (by rw [s6, s4]; decide), if_pos trivial]
    simp only [must_nm, must_wd, Option.bind_some, en]
    rcases hk with rfl | rfl
    · have : isT (Wd (str "true") :: r) 1 (str "true") = true := by simp [isT, Wd]
      simp only [if_true, this, List.tail_cons]
    · have : isT (Wd (str "false") :: r) 1 (str "true") = false := by simp [isT, Wd, s8, s9]
      have h2 : ¬ ((2 : Nat) = 1) := by decide
      simp only [if_neg h2, this, must_wd, Option.map_some, Bool.false_eq_true, if_false]
theorem tkNd_head {n : Nd} (r : List Tok) (v : List UInt8) : isT (tkNd n ++ r) 3 v = false := by
  unfold tkNd
  split <;> simp only [List.cons_append] <;> exact isT_wd _ _ _
theorem PT_atom {f : Nat} {l r : List Tok} {x : Nd} {a : T} (h1 : isT l 3 [33] = false) (h2 : isT l 3 [40] = false) (h : atom l = some (x, r)) : PT (f + 1) 2 l a = some (some (r, .at x)) := by
  rw [PT_succ]
  simp [PTstep, h1, h2, h]
theorem PT_bang {f : Nat} {l r : List Tok} {t a : T} (h : PT f 2 l a = some (some (r, t))) : PT (f + 1) 2 (Sg [33] :: l) a = some (some (r, .no t)) := by
  rw [PT_succ]
  simp [PTstep, isT_sg, h, bindT]
theorem PT_paren {f : Nat} {l r : List Tok} {t a : T} (h : PT f 0 l a = some (some (Sg [41] :: r, t))) : PT (f + 1) 2 (Sg [40] :: l) a = some (some (r, t)) := by
  rw [PT_succ]
  simp [PTstep, isT_sg, h, bindT, must_sg]
theorem PT_stop3 {f : Nat} {l : List Tok} {a : T} (h : isT l 3 [124, 124] = false) : PT (f + 1) 3 l a = some (some (l, a)) := by
  rw [PT_succ]
  simp [PTstep, h]
theorem PT_stop4 {f : Nat} {l : List Tok} {a : T} (h : isT l 3 [38, 38] = false) : PT (f + 1) 4 l a = some (some (l, a)) := by
  rw [PT_succ]
  simp [PTstep, h]
theorem PT_more3 {f : Nat} {l r : List Tok} {a t : T} (h : PT f 1 l a = some (some (r, t))) : PT (f + 1) 3 (Sg [124, 124] :: l) a = PT f 3 r (.or a t) := by
  rw [PT_succ]
  simp [PTstep, isT_sg, h, bindT]
theorem PT_more4 {f : Nat} {l r : List Tok} {a t : T} (h : PT f 2 l a = some (some (r, t))) : PT (f + 1) 4 (Sg [38, 38] :: l) a = PT f 4 r (.an a t) := by
  rw [PT_succ]
  simp [PTstep, isT_sg, h, bindT]
theorem PT_zero {f : Nat} {l r : List Tok} {a t : T} (h : PT f 1 l a = some (some (r, t))) : PT (f + 1) 0 l a = PT f 3 r t := by
  rw [PT_succ]
  simp [PTstep, h, bindT]
theorem PT_one {f : Nat} {l r : List Tok} {a t : T} (h : PT f 2 l a = some (some (r, t))) : PT (f + 1) 1 l a = PT f 4 r t := by
  rw [PT_succ]
  simp [PTstep, h, bindT]
/-- one operand, then nothing that joins -/
theorem PT_single {f : Nat} {l r : List Tok} {a t : T} (h : PT (f + 1) 2 l a = some (some (r, t))) (h3 : isT r 3 [124, 124] = false) (h4 : isT r 3 [38, 38] = false) : PT (f + 3) 0 l a = some (some (r, t)) := by
  rw [PT_zero (f := f + 2) (r := r) (t := t), PT_stop3 h3]
  rw [PT_one h, PT_stop4 h4]
theorem PT_single1 {f : Nat} {l r : List Tok} {a t : T} (h : PT (f + 1) 2 l a = some (some (r, t))) (h4 : isT r 3 [38, 38] = false) : PT (f + 2) 1 l a = some (some (r, t)) := by
  rw [PT_one h, PT_stop4 h4]
theorem PT_an {f : Nat} {l m r : List Tok} {a t u : T} (h : PT (f + 1) 2 l a = some (some (Sg [38, 38] :: m, t))) (h2 : PT (f + 1) 2 m t = some (some (r, u))) (h3 : isT r 3 [124, 124] = false) (h4 : isT r 3 [38, 38] = false) : PT (f + 4) 0 l a = some (some (r, .an t u)) := by
  rw [PT_zero (f := f + 3) (r := r) (t := .an t u), PT_stop3 h3]
  rw [PT_one (PT_mono h (Nat.le_succ _)), PT_more4 h2, PT_stop4 h4]
theorem PT_or {f : Nat} {l m r : List Tok} {a t u : T} (h : PT (f + 1) 2 l a = some (some (Sg [124, 124] :: m, t))) (h2 : PT (f + 1) 2 m t = some (some (r, u))) (h3 : isT r 3 [124, 124] = false) (h4 : isT r 3 [38, 38] = false) : PT (f + 4) 0 l a = some (some (r, .or t u)) := by
  have h1 : PT (f + 2) 1 l a = some (some (Sg [124, 124] :: m, t)) := PT_single1 h (by rw [isT_sg _ _ _ (by decide)]; decide)
  rw [PT_zero (f := f + 3) (PT_mono h1 (Nat.le_succ _)), PT_more3 (PT_single1 h2 h4), PT_stop3 h3]
theorem isT_close (r : List Tok) : isT (Sg [41] :: r) 3 [124, 124] = false ∧ isT (Sg [41] :: r) 3 [38, 38] = false := by
  constructor <;> (rw [isT_sg _ _ _ (by decide)]; decide)
theorem PT_tk : ∀ (t : T) (r : List Tok) (a : T) (f : Nat), t.can → 5 * t.size ≤ f → PT f 2 (tkT t ++ r) a = some (some (r, t))
  | .at n, r, a, f, h, hf => by
    obtain ⟨f, rfl⟩ : ∃ g, f = g + 1 := ⟨f - 1, by simp [T.size] at hf; omega⟩
    exact PT_atom (tkNd_head _ _) (tkNd_head _ _) (atom_tk h r)
  | .no t, r, a, f, h, hf => by
    simp only [T.size] at hf
    obtain ⟨f, rfl⟩ : ∃ g, f = g + 1 := ⟨f - 1, by omega⟩
    exact PT_bang (PT_tk t r a f h (by omega))
  | .an t u, r, a, f, h, hf => by
    simp only [T.size] at hf
    have h1 := t.size_pos
    have h2 := u.size_pos
    obtain ⟨f, rfl⟩ : ∃ g, f = g + 5 := ⟨f - 5, by omega⟩
    simp only [tkT, List.cons_append, List.append_assoc, List.nil_append]
    refine PT_paren ?_
    exact PT_an (PT_tk t _ a (f + 1) h.1 (by omega)) (PT_tk u _ t (f + 1) h.2 (by omega)) (isT_close r).1 (isT_close r).2
  | .or t u, r, a, f, h, hf => by
    simp only [T.size] at hf
    have h1 := t.size_pos
    have h2 := u.size_pos
    obtain ⟨f, rfl⟩ : ∃ g, f = g + 5 := ⟨f - 5, by omega⟩
    simp only [tkT, List.cons_append, List.append_assoc, List.nil_append]
    refine PT_paren ?_
    exact PT_or (PT_tk t _ a (f + 1) h.1 (by omega)) (PT_tk u _ t (f + 1) h.2 (by omega)) (isT_close r).1 (isT_close r).2
theorem tkT_size : ∀ (t : T), t.size ≤ (tkT t).length
  | .at n => by simp only [T.size, tkT, tkNd]; split <;> simp
  | .no t => by simp only [T.size, tkT, List.length_cons]; have := tkT_size t; omega
  | .an t u => by simp only [T.size, tkT, List.length_cons, List.length_append]; have := tkT_size t; have := tkT_size u; omega
  | .or t u => by simp only [T.size, tkT, List.length_cons, List.length_append]; have := tkT_size t; have := tkT_size u; omega
/-- the parser's answer in trees -/
theorem tree_iff (l : List Tok) (o : List Nd) : tree l = some o ↔ ∃ t, PT (6 * l.length + 6) 0 l default = some (some ([], t)) ∧ o = t.flat 0 := by
  unfold tree
  rw [(P_tree _).1 0 l [] default (by decide) (by decide)]
  unfold lay
  constructor
  · intro h
    rcases hp : PT (6 * l.length + 6) 0 l default with _ | _ | x
    · rw [hp] at h; simp at h
    · rw [hp] at h; simp at h
    · rw [hp] at h
      obtain ⟨l', t⟩ := x
      cases l' with
      | nil => simp at h; exact ⟨t, rfl, h.symm⟩
      | cons y l' => simp at h
  · rintro ⟨t, h, rfl⟩
    rw [h]; simp
theorem tree_tk (t : T) (h : t.can) : tree (tkT t) = some (t.flat 0) := by
  rw [tree_iff]
  refine ⟨t, ?_, rfl⟩
  have h0 := tkT_size t
  have hs := t.size_pos
  have h1 := PT_tk t [] default (6 * (tkT t).length + 3 + 1) h (by omega)
  rw [List.append_nil] at h1
  exact PT_single h1 rfl rfl
/-- what an accepted text is -/
theorem parse_tree {s : List UInt8} {o : List Nd} (h : parse s = (o, 0)) : ∃ l t, lex s = some l ∧ PT (6 * l.length + 6) 0 l default = some (some ([], t)) ∧ o = t.flat 0 ∧ OkToks l ∧ t.can := by
  unfold parse at h
  split at h
  · simp at h
  · cases hl : lex s with
    | none => rw [hl] at h; simp at h
    | some l =>
      rw [hl] at h
      simp only at h
      split at h
      · simp at h
      · cases ht : tree l with
        | none => rw [ht] at h; simp at h
        | some o' =>
          rw [ht] at h
          simp only at h
          split at h
          · simp at h
          · simp at h
            subst h
            obtain ⟨t, h1, h2⟩ := (tree_iff l o').1 ht
            have hk := (lex_ok hl).1
            exact ⟨l, t, rfl, h1, h2, hk, (PT_can _ _ _ _ _ hk (by omega) h1).2⟩
/-- printing and parsing again -/
theorem parse_text {s : List UInt8} {o : List Nd} (h : parse s = (o, 0)) : (parse (text o)).2 = 2 ∨ parse (text o) = (o, 0) := by
  obtain ⟨l, t, h1, h2, rfl, h4, h5⟩ := parse_tree h
  rw [text_flat t h5.ok]
  unfold parse
  rw [lex_tree t h5]
  split
  · exact .inl rfl
  · simp only
    split
    · exact .inl rfl
    · rw [tree_tk t h5]
      simp only
      split
      · exact .inl rfl
      · exact .inr rfl
end Po
end Go.Proofs.YtdolpmmnjndfkaaGreatDoor
