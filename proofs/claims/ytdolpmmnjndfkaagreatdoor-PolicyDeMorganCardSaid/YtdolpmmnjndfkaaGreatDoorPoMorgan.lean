/- Chapter 29, plain: policies that are put together out of accepted texts. -/
import Derived.Test.YtdolpmmnjndfkaaGreatDoorPoRoundB
namespace Go.Proofs.YtdolpmmnjndfkaaGreatDoor
namespace Po
theorem PT_arg : ∀ (f lv : Nat) (l : List Tok) (a b : T), lv ≠ 3 → lv ≠ 4 → PT f lv l a = PT f lv l b
  | 0, _, _, _, _, _, _ => rfl
  | f + 1, lv, l, a, b, h3, h4 => by
    rw [PT_succ, PT_succ]
    unfold PTstep
    rw [PT_arg f 1 l a b (by decide) (by decide), PT_arg f 2 l a b (by decide) (by decide), PT_arg f 2 l.tail a b (by decide) (by decide), PT_arg f 0 l.tail a b (by decide) (by decide), if_neg h3, if_neg h4, if_neg h3, if_neg h4]
def Op (l : List Tok) (t : T) (n : Nat) : Prop := ∀ r x f, n ≤ f → PT f 2 (l ++ r) x = some (some (r, t))
def Whole (l : List Tok) (t : T) (n : Nat) : Prop := ∀ x f, n ≤ f → PT f 0 l x = some (some ([], t))
theorem Whole.of {l : List Tok} {t : T} {n : Nat} (h : PT n 0 l default = some (some ([], t))) : Whole l t n := fun x f hf => by
  rw [PT_arg f 0 l x default (by decide) (by decide)]
  exact PT_mono h hf
theorem Op.paren {l : List Tok} {t : T} {n : Nat} (h : Whole l t n) : Op ([Sg [40]] ++ (l ++ [Sg [41]])) t (n + 1) := fun r x f hf => by
  obtain ⟨f, rfl⟩ : ∃ g, f = g + 1 := ⟨f - 1, by omega⟩
  simp only [List.cons_append, List.append_assoc, List.nil_append]
  refine PT_paren ?_
  exact PT_app (.inr ⟨_, r, rfl, rfl, rfl⟩) f 0 l x _ (h x f (by omega))
theorem Op.bang {l : List Tok} {t : T} {n : Nat} (h : Op l t n) : Op ([Sg [33]] ++ l) (.no t) (n + 1) := fun r x f hf => by
  obtain ⟨f, rfl⟩ : ∃ g, f = g + 1 := ⟨f - 1, by omega⟩
  simp only [List.cons_append, List.nil_append]
  exact PT_bang (h r x f (by omega))
def anyNd : Nd := ⟨1, 0, 0, 0, zero16, []⟩
theorem any_canon : Canon anyNd := ⟨rfl, by decide, by decide, rfl, zero16_lt, .inl ⟨rfl, rfl, rfl, rfl, rfl⟩⟩
theorem Op.any : Op [Wd (str "any")] (.at anyNd) 5 := fun r x f hf => PT_tk (.at anyNd) r x f any_canon hf
theorem Op.single {l : List Tok} {t : T} {n : Nat} (h : Op l t n) : Whole l t (n + 3) := fun x f hf => by
  obtain ⟨f, rfl⟩ : ∃ g, f = g + 3 := ⟨f - 3, by omega⟩
  have := h [] x (f + 1) (by omega)
  rw [List.append_nil] at this
  exact PT_single this rfl rfl
theorem Op.an {l m : List Tok} {t u : T} {n k : Nat} (h : Op l t n) (g : Op m u k) : Whole (l ++ ([Sg [38, 38]] ++ m)) (.an t u) (n + k + 4) := fun x f hf => by
  obtain ⟨f, rfl⟩ : ∃ g, f = g + 4 := ⟨f - 4, by omega⟩
  have h2 := g [] t (f + 1) (by omega)
  rw [List.append_nil] at h2
  exact PT_an (h _ x (f + 1) (by omega)) h2 rfl rfl
theorem Op.or {l m : List Tok} {t u : T} {n k : Nat} (h : Op l t n) (g : Op m u k) : Whole (l ++ ([Sg [124, 124]] ++ m)) (.or t u) (n + k + 4) := fun x f hf => by
  obtain ⟨f, rfl⟩ : ∃ g, f = g + 4 := ⟨f - 4, by omega⟩
  have h2 := g [] t (f + 1) (by omega)
  rw [List.append_nil] at h2
  exact PT_or (h _ x (f + 1) (by omega)) h2 rfl rfl
/-- the text s has the tokens l, the tokens the tree t -/
structure Holds (s : List UInt8) (l : List Tok) (t : T) : Prop where
  lx : lex s = some l
  wh : Whole l t (6 * l.length + 6)
  ok : t.ok
theorem Holds.of {s : List UInt8} {o : List Nd} (h : parse s = (o, 0)) : ∃ l t, Holds s l t ∧ o = t.flat 0 := by
  obtain ⟨l, t, h1, h2, h3, _, h5⟩ := parse_tree h
  exact ⟨l, t, ⟨h1, Whole.of h2, h5.ok⟩, h3⟩
theorem Holds.eval {s : List UInt8} {l : List Tok} {t : T} (h : Holds s l t) {o : List Nd} (hp : parse s = (o, 0)) (f : Facts) : eval o f = evT f t := by
  obtain ⟨l', t', h1, h2, rfl, _, _⟩ := parse_tree hp
  rw [h.lx] at h1
  simp only [Option.some.injEq] at h1
  subst h1
  have := h.wh default _ (Nat.le_refl _)
  rw [this] at h2
  simp only [Option.some.injEq, Prod.mk.injEq, true_and] at h2
  subst h2
  exact eval_flat f t h.ok
theorem lxa_paren {s : List UInt8} {l : List Tok} (h : lex s = some l) : LxA ([40] ++ (s ++ [41])) ([Sg [40]] ++ (l ++ [Sg [41]])) := fun r => by
  have := lex_app (r := 41 :: r) (.inr ⟨r, rfl⟩) _ s l (Nat.le_refl _) h
  simp only [List.cons_append, List.append_assoc, List.nil_append]
  rw [lex_open, this, lex_close]
  cases lex r <;> simp [Sg]
theorem Lx.whole {s : List UInt8} {l : List Tok} (h : Lx s l) : lex s = some l := by
  have := h [] rfl
  rw [List.append_nil, lex_nil] at this
  rw [this]; simp
/-- the texts of the law -/
def lefts (a b : List UInt8) : List (List UInt8) := [[33] ++ ([40] ++ (([40] ++ (a ++ [41])) ++ ([32, 38, 38, 32] ++ ([40] ++ (b ++ [41]))) ++ [41])), [33] ++ ([33] ++ ([40] ++ (a ++ [41]))), ([40] ++ (a ++ [41])) ++ ([32, 38, 38, 32] ++ str "any"), ([40] ++ (a ++ [41])) ++ ([32, 124, 124, 32] ++ str "any"), [33] ++ ([40] ++ (([40] ++ (a ++ [41])) ++ ([32, 124, 124, 32] ++ ([40] ++ (b ++ [41]))) ++ [41]))]
def rights (a b : List UInt8) : List (List UInt8) := [([33] ++ ([40] ++ (a ++ [41]))) ++ ([32, 124, 124, 32] ++ ([33] ++ ([40] ++ (b ++ [41])))), a, a, str "any", ([33] ++ ([40] ++ (a ++ [41]))) ++ ([32, 38, 38, 32] ++ ([33] ++ ([40] ++ (b ++ [41]))))]
def pairT (t u : T) (i : Nat) : T × T := match i with
  | 0 => (.no (.an t u), .or (.no t) (.no u))
  | 1 => (.no (.no t), t)
  | 2 => (.an t (.at anyNd), t)
  | 3 => (.or t (.at anyNd), .at anyNd)
  | _ => (.no (.or t u), .an (.no t) (.no u))
theorem pair_eval (f : Facts) (t u : T) (ht : t.ok) (hu : u.ok) (i : Nat) : evT f (pairT t u i).1 = evT f (pairT t u i).2 := by
  have a := evT_val f t ht
  have b := evT_val f u hu
  have e : evT f (.at anyNd) = 1 := rfl
  unfold pairT
  split
  · exact morgan' a b
  · exact neg_neg' _ a
  · show conj _ (evT f (.at anyNd)) = _
    rw [e]; exact conj_any a
  · show neg (conj _ (neg (evT f (.at anyNd)))) = evT f (.at anyNd)
    rw [e]; exact disj_any a
  · exact morgan a b
theorem any_ok : (T.at anyNd).ok := any_canon.ok
theorem Holds.mk' {s : List UInt8} {l : List Tok} {t : T} {n : Nat} (h : lex s = some l) (g : Whole l t n) (hn : n ≤ 6 * l.length + 6) (ok : t.ok) : Holds s l t := ⟨h, fun x f hf => g x f (by omega), ok⟩
theorem lefts_hold {a b : List UInt8} {la lb : List Tok} {t u : T} (ha : Holds a la t) (hb : Holds b lb u) : ∀ (i : Nat) (s : List UInt8), (lefts a b)[i]? = some s → ∃ l, Holds s l (pairT t u i).1 := by
  have pa := lxa_paren ha.lx
  have pb := lxa_paren hb.lx
  have oa := Op.paren ha.wh
  have ob := Op.paren hb.wh
  have wa := lx_word str_wordy.1
  intro i s hs
  match i, hs with
  | 0, hs =>
    simp only [lefts, List.getElem?_cons_zero, Option.some.injEq] at hs
    subst hs
    have X := (lxa_bang.appA (lxa_open.appA ((pa.appA (lxa_and.appA pb)).appA lxa_close))).lx.whole
    exact ⟨_, .mk' X (Op.bang (Op.paren (oa.an ob))).single (by simp; omega) ⟨ha.ok, hb.ok⟩⟩
  | 1, hs =>
    simp only [lefts, List.getElem?_cons_succ, List.getElem?_cons_zero, Option.some.injEq] at hs
    subst hs
    have X := (lxa_bang.appA (lxa_bang.appA pa)).lx.whole
    exact ⟨_, .mk' X (Op.bang (Op.bang oa)).single (by simp; omega) ha.ok⟩
  | 2, hs =>
    simp only [lefts, List.getElem?_cons_succ, List.getElem?_cons_zero, Option.some.injEq] at hs
    subst hs
    have X := (pa.app (lxa_and.app wa)).whole
    exact ⟨_, .mk' X (oa.an Op.any) (by simp; omega) ⟨ha.ok, any_ok⟩⟩
  | 3, hs =>
    simp only [lefts, List.getElem?_cons_succ, List.getElem?_cons_zero, Option.some.injEq] at hs
    subst hs
    have X := (pa.app (lxa_or.app wa)).whole
    exact ⟨_, .mk' X (oa.or Op.any) (by simp; omega) ⟨ha.ok, any_ok⟩⟩
  | 4, hs =>
    simp only [lefts, List.getElem?_cons_succ, List.getElem?_cons_zero, Option.some.injEq] at hs
    subst hs
    have X := (lxa_bang.appA (lxa_open.appA ((pa.appA (lxa_or.appA pb)).appA lxa_close))).lx.whole
    exact ⟨_, .mk' X (Op.bang (Op.paren (oa.or ob))).single (by simp; omega) ⟨ha.ok, hb.ok⟩⟩
  | i + 5, hs => simp [lefts] at hs
theorem rights_hold {a b : List UInt8} {la lb : List Tok} {t u : T} (ha : Holds a la t) (hb : Holds b lb u) : ∀ (i : Nat) (s : List UInt8), (rights a b)[i]? = some s → ∃ l, Holds s l (pairT t u i).2 := by
  have pa := lxa_paren ha.lx
  have pb := lxa_paren hb.lx
  have oa := Op.paren ha.wh
  have ob := Op.paren hb.wh
  have wa := lx_word str_wordy.1
  intro i s hs
  match i, hs with
  | 0, hs =>
    simp only [rights, List.getElem?_cons_zero, Option.some.injEq] at hs
    subst hs
    have X := ((lxa_bang.appA pa).appA (lxa_or.appA (lxa_bang.appA pb))).lx.whole
    exact ⟨_, .mk' X (oa.bang.or ob.bang) (by simp; omega) ⟨ha.ok, hb.ok⟩⟩
  | 1, hs =>
    simp only [rights, List.getElem?_cons_succ, List.getElem?_cons_zero, Option.some.injEq] at hs
    subst hs
    exact ⟨_, ha⟩
  | 2, hs =>
    simp only [rights, List.getElem?_cons_succ, List.getElem?_cons_zero, Option.some.injEq] at hs
    subst hs
    exact ⟨_, ha⟩
  | 3, hs =>
    simp only [rights, List.getElem?_cons_succ, List.getElem?_cons_zero, Option.some.injEq] at hs
    subst hs
    exact ⟨_, .mk' wa.whole Op.any.single (by simp) any_ok⟩
  | 4, hs =>
    simp only [rights, List.getElem?_cons_succ, List.getElem?_cons_zero, Option.some.injEq] at hs
    subst hs
    have X := ((lxa_bang.appA pa).appA (lxa_and.appA (lxa_bang.appA pb))).lx.whole
    exact ⟨_, .mk' X (oa.bang.an ob.bang) (by simp; omega) ⟨ha.ok, hb.ok⟩⟩
  | i + 5, hs => simp [rights] at hs
/-- the law, in plain words -/
theorem law_morgan {a b : List UInt8} {oa ob : List Nd} (ha : parse a = (oa, 0)) (hb : parse b = (ob, 0)) (i : Nat) {s s' : List UInt8} (hs : (lefts a b)[i]? = some s) (hs' : (rights a b)[i]? = some s') {x y : List Nd} (hx : parse s = (x, 0)) (hy : parse s' = (y, 0)) (f : Facts) : eval x f = eval y f := by
  obtain ⟨la, t, h1, _⟩ := Holds.of ha
  obtain ⟨lb, u, h2, _⟩ := Holds.of hb
  obtain ⟨l, g1⟩ := lefts_hold h1 h2 i s hs
  obtain ⟨l', g2⟩ := rights_hold h1 h2 i s' hs'
  rw [g1.eval hx, g2.eval hy]
  exact pair_eval f t u h1.ok h2.ok i
end Po
end Go.Proofs.YtdolpmmnjndfkaaGreatDoor
