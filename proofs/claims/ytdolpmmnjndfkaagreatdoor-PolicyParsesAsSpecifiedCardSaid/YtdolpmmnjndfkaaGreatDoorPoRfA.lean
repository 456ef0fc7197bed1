/- Chapter 29, plain: the reference's lexer and parser in positions; what its must, comparison, atom and recursion leave. No program in sight. -/
import Derived.Test.YtdolpmmnjndfkaaGreatDoorPoPl
import Derived.Test.YtdolpmmnjndfkaaGreatDoorPoNodes
namespace Go.Proofs.YtdolpmmnjndfkaaGreatDoor
namespace Po
/-- the class of a byte -/
def cls (b : UInt8) : Nat := if letter b then 1 else if digit b then 2 else if b = 95 then 3 else if blank b then 4 else 0
/-- the length of the sign at the start of a text; 0: none -/
def lenOf : Option (List UInt8) → Nat
  | none => 0
  | some w => w.length
def signLen (s : List UInt8) : Nat := lenOf (ops.find? fun w => w.isPrefixOf s)
theorem cls_letter {b : UInt8} : cls b = 1 ↔ letter b = true := by
  unfold cls
  cases letter b <;> simp
  cases digit b <;> simp
  split
  · simp
  · split <;> simp
theorem cls_digit {b : UInt8} (h : letter b = false) : cls b = 2 ↔ digit b = true := by
  unfold cls
  rw [h]
  simp only [Bool.false_eq_true, if_false]
  cases digit b <;> simp
  split
  · simp
  · split <;> simp
theorem cls_blank {b : UInt8} (h : cls b = 4) : blank b = true := by
  unfold cls at h
  split at h
  · cases h
  · split at h
    · cases h
    · split at h
      · cases h
      · split at h
        · assumption
        · cases h
theorem cls_not_blank {b : UInt8} (h : cls b ≠ 4) : blank b = false := by
  cases hb : blank b with
  | false => rfl
  | true =>
    exfalso
    apply h
    have h1 : b = 32 ∨ b = 9 ∨ b = 10 := by simpa [blank, or_assoc] using hb
    rcases h1 with rfl | rfl | rfl <;> decide
theorem cls_word {b : UInt8} : word b = true ↔ cls b = 1 ∨ cls b = 2 ∨ cls b = 3 := by
  unfold cls word
  cases letter b <;> simp
  cases digit b <;> simp
  split
  · simp_all
  · split <;> simp_all
theorem cls_le (b : UInt8) : cls b ≤ 4 := by
  unfold cls
  repeat' split
  all_goals omega
/-- what is next, by the class of the first byte -/
theorem next_cls3 {b : UInt8} {s : List UInt8} (h : cls b = 3) : next (b :: s) = none := by
  have hl : letter b = false := by cases h1 : letter b <;> simp_all [cls]
  have hd : digit b = false := by cases h1 : digit b <;> simp_all [cls]
  have hb : b = 95 := by
    unfold cls at h
    rw [hl, hd] at h
    simp only [Bool.false_eq_true, if_false] at h
    split at h
    · assumption
    · split at h <;> cases h
  subst hb
  simp only [next, hl, hd]
  simp [ops, List.find?, List.isPrefixOf]
theorem next_cls0 {b : UInt8} {s : List UInt8} (h : cls b = 0) : next (b :: s) = (ops.find? fun w => w.isPrefixOf (b :: s)).map fun w => ⟨3, w, 0⟩ := by
  have hl : letter b = false := by cases h1 : letter b <;> simp_all [cls]
  have hd : digit b = false := by cases h1 : digit b <;> simp_all [cls]
  simp only [next, hl, hd]
  rfl
theorem signLen_none {s : List UInt8} (h : signLen s = 0) : ops.find? (fun w => w.isPrefixOf s) = none := by
  unfold signLen at h
  cases e : ops.find? (fun w => w.isPrefixOf s) with
  | none => rfl
  | some w =>
    rw [e] at h
    have := List.mem_of_find?_eq_some e
    simp only [ops, List.mem_cons, List.not_mem_nil, or_false] at this
    rcases this with rfl | rfl | rfl | rfl | rfl | rfl | rfl | rfl | rfl | rfl | rfl | rfl | rfl | rfl | rfl <;> cases h
theorem signLen_some {s : List UInt8} {n : Nat} (h : signLen s = n + 1) : ops.find? (fun w => w.isPrefixOf s) = some (s.take (n + 1)) ∧ n + 1 ≤ s.length ∧ n + 1 ≤ 2 := by
  unfold signLen at h
  cases e : ops.find? (fun w => w.isPrefixOf s) with
  | none => rw [e] at h; cases h
  | some w =>
    rw [e] at h
    simp only [lenOf] at h
    have hp := List.find?_some e
    simp only [List.isPrefixOf_iff_prefix] at hp
    have hm := List.mem_of_find?_eq_some e
    have hl : w.length ≤ 2 := by
      simp only [ops, List.mem_cons, List.not_mem_nil, or_false] at hm
      rcases hm with rfl | rfl | rfl | rfl | rfl | rfl | rfl | rfl | rfl | rfl | rfl | rfl | rfl | rfl | rfl <;> simp
    obtain ⟨t, rfl⟩ := hp
    refine ⟨?_, by simp [h], by omega⟩
    rw [← h]
    simp
/-- what the lexer says from a position on -/
def LexAt (T : List UInt8) (i : Nat) (ks : List Tok) : Prop := i ≤ T.length ∧ ks.length ≤ i ∧ lex T = (lex (T.drop i)).map (ks ++ ·)
theorem LexAt.start (T : List UInt8) : LexAt T 0 [] := ⟨Nat.zero_le _, Nat.le_refl _, by simp⟩
theorem LexAt.fin {T : List UInt8} {ks : List Tok} (h : LexAt T T.length ks) : lex T = some ks := by
  have := h.2.2
  rw [List.drop_length, lex_nil] at this
  simpa using this
theorem drop_at {α : Type} {T : List α} {i : Nat} {c : α} (hc : T[i]? = some c) : T.drop i = c :: T.drop (i + 1) := by
  have hlt := (List.getElem?_eq_some_iff.1 hc).1
  rw [List.drop_eq_getElem_cons hlt]
  rw [List.getElem?_eq_getElem hlt] at hc
  simp at hc
  rw [hc]
theorem LexAt.skip {T : List UInt8} {i : Nat} {ks : List Tok} {c : UInt8} (h : LexAt T i ks) (hc : T[i]? = some c) (hb : cls c = 4) : LexAt T (i + 1) ks := by
  have hlt := (List.getElem?_eq_some_iff.1 hc).1
  refine ⟨hlt, by have := h.2.1; omega, ?_⟩
  rw [h.2.2, drop_at hc, lex_blank (cls_blank hb)]
theorem LexAt.fail {T : List UInt8} {i : Nat} {ks : List Tok} {c : UInt8} (h : LexAt T i ks) (hc : T[i]? = some c) (hb : cls c ≠ 4) (hn : next (T.drop i) = none) : lex T = none := by
  rw [h.2.2, drop_at hc, lex_none (cls_not_blank hb) (by rw [← drop_at hc]; exact hn)]
  rfl
theorem LexAt.step {T : List UInt8} {i : Nat} {ks : List Tok} {c : UInt8} {t : Tok} (h : LexAt T i ks) (hc : T[i]? = some c) (hb : cls c ≠ 4) (hn : next (T.drop i) = some t) (hl : i + t.t.length ≤ T.length) (h1 : 1 ≤ t.t.length) : LexAt T (i + t.t.length) (ks ++ [t]) := by
  refine ⟨hl, by have := h.2.1; simp; omega, ?_⟩
  rw [h.2.2, drop_at hc, lex_step (cls_not_blank hb) (by rw [← drop_at hc]; exact hn), ← drop_at hc, List.drop_drop, Option.map_map]
  congr 1
  funext x
  simp
/-- the tokens from a position on; none behind an error -/
def rest (L : List Tok) (k : Int) : List Tok := if k < 0 then [] else L.drop k.toNat
theorem rest_nat (L : List Tok) (k : Nat) : rest L (k : Int) = L.drop k := by
  unfold rest
  rw [if_neg (by omega), Int.toNat_natCast]
theorem rest_neg (L : List Tok) : rest L (-1) = [] := rfl
theorem rest_zero (L : List Tok) : rest L 0 = L := by simp [rest]
theorem rest_len (L : List Tok) (k : Int) : (rest L k).length ≤ L.length := by
  unfold rest
  split
  · simp
  · simp
theorem rest_nil {L : List Tok} {k : Int} (h : k < 0 ∨ (L.length : Int) ≤ k) : rest L k = [] := by
  unfold rest
  split
  · rfl
  · exact List.drop_eq_nil_of_le (by omega)
theorem rest_cons {L : List Tok} {k : Int} {x : Tok} {r : List Tok} (h : rest L k = x :: r) : 0 ≤ k ∧ k < L.length ∧ L[k.toNat]? = some x ∧ rest L (k + 1) = r := by
  have h0 : 0 ≤ k := by
    rcases Int.lt_or_le k 0 with h1 | h1
    · rw [rest_nil (.inl h1)] at h; cases h
    · exact h1
  have h1 : k < L.length := by
    rcases Int.lt_or_le k L.length with h1 | h1
    · exact h1
    · rw [rest_nil (.inr h1)] at h; cases h
  obtain ⟨n, rfl⟩ : ∃ n : Nat, k = n := ⟨k.toNat, by omega⟩
  rw [rest_nat] at h
  have hn : n < L.length := by omega
  rw [List.drop_eq_getElem_cons hn, List.cons.injEq] at h
  refine ⟨h0, h1, ?_, ?_⟩
  · rw [Int.toNat_natCast, List.getElem?_eq_getElem hn, h.1]
  · rw [show ((n : Int) + 1) = ((n + 1 : Nat) : Int) by omega, rest_nat]; exact h.2
theorem rest_at {L : List Tok} {k : Nat} {x : Tok} (h : L[k]? = some x) : rest L (k : Int) = x :: rest L ((k : Int) + 1) := by
  rw [rest_nat, drop_at h, show ((k : Int) + 1) = ((k + 1 : Nat) : Int) by omega, rest_nat]
theorem rest_tail {L : List Tok} {k : Int} {n : Nat} {t : List UInt8} (h : isT (rest L k) n t = true) : 0 ≤ k ∧ k < L.length ∧ rest L (k + 1) = (rest L k).tail := by
  cases e : rest L k with
  | nil => rw [e] at h; simp [isT] at h
  | cons x r => obtain ⟨a, b, _, c⟩ := rest_cons e; exact ⟨a, b, c⟩
/-- a position that the parser can stand at -/
def Pos (L : List Tok) (k : Int) : Prop := -1 ≤ k ∧ k ≤ L.length
theorem rest_end {L : List Tok} {k : Int} (hk : Pos L k) : (k = L.length ↔ 0 ≤ k ∧ rest L k = []) := by
  constructor
  · intro h; exact ⟨by omega, rest_nil (.inr (by omega))⟩
  · rintro ⟨h, h2⟩
    obtain ⟨n, rfl⟩ : ∃ n : Nat, k = n := ⟨k.toNat, by omega⟩
    rw [rest_nat, List.drop_eq_nil_iff] at h2
    have := hk.2
    omega
def Dg16 (o : List Nd) : Prop := ∀ y ∈ o, y.dg.length = 16
theorem Dg16.nil : Dg16 [] := fun y h => by simp at h
theorem Dg16.snoc {o : List Nd} {x : Nd} (h : Dg16 o) (hx : x.dg.length = 16) : Dg16 (o ++ [x]) := fun y hy => by
  rcases List.mem_append.1 hy with h1 | h1
  · exact h y h1
  · simp only [List.mem_singleton] at h1; rw [h1]; exact hx
/-- what a run of the reference's parser leaves: the position and the nodes; (-1: an error) -/
def PR (L : List Tok) (k : Int) (o : List Nd) (r : Option (List Tok × List Nd)) (k' : Int) (o' : List Nd) : Prop := match r with
  | some x => 0 ≤ k' ∧ k' ≤ L.length ∧ rest L k' = x.1 ∧ o' = x.2
  | none => k' = -1 ∧ o'.length ≤ o.length + 2 * (rest L k).length + 1
end Po
end Go.Proofs.YtdolpmmnjndfkaaGreatDoor
namespace Go.Proofs.YtdolpmmnjndfkaaGreatDoor
/-- what must answers: a token (an empty one on failure) and the next position (-1 on failure) -/
def rmust (L : List Po.Tok) (k : Int) (kd : Nat) (t : List UInt8) : Po.Tok × Int := match Po.must kd t (Po.rest L k) with
  | some x => (x.1, k + 1)
  | none => (⟨0, [], 0⟩, -1)
theorem must_isT {l : List Po.Tok} {k : Nat} {t : List UInt8} : (Po.isT l k t = false → Po.must k t l = none) ∧ (Po.isT l k t = true → ∃ x r, l = x :: r ∧ Po.must k t l = some (x, r)) := by
  cases l with
  | nil => exact ⟨fun _ => rfl, fun h => by simp [Po.isT] at h⟩
  | cons x r =>
    refine ⟨fun h => ?_, fun h => ⟨x, r, rfl, ?_⟩⟩
    · simp only [Po.isT] at h; simp only [Po.must]; rw [if_neg (by rw [h]; simp)]
    · simp only [Po.isT] at h; simp only [Po.must]; rw [if_pos h]
/-- a partial result and the position behind it; -1: none -/
def RR {α : Type} (L : List Po.Tok) (r : Option (α × List Po.Tok)) (x : α) (k' : Int) : Prop := match r with
  | some y => x = y.1 ∧ 0 ≤ k' ∧ k' ≤ L.length ∧ Po.rest L k' = y.2
  | none => k' = -1
theorem RR.pos {α : Type} {L : List Po.Tok} {r : Option (α × List Po.Tok)} {x : α} {k' : Int} (h : RR L r x k') : Po.Pos L k' := by
  cases r with
  | none => have : k' = -1 := h; exact ⟨by omega, by omega⟩
  | some y => exact ⟨by have := h.2.1; omega, h.2.2.1⟩
theorem RR.bind {α β : Type} {L : List Po.Tok} {r : Option (α × List Po.Tok)} {x : α} {k1 k2 : Int} {g : α × List Po.Tok → Option (β × List Po.Tok)} {z : β} (h : RR L r x k1) (hs : 0 ≤ k1 → RR L (g (x, Po.rest L k1)) z k2) (hn : k1 = -1 → k2 = -1) : RR L (r.bind g) z k2 := by
  cases r with
  | none => exact hn h
  | some y =>
    obtain ⟨y, l⟩ := y
    obtain ⟨rfl, h0, -, h2⟩ := h
    have := hs h0
    simp only at h2
    rw [h2] at this
    exact this
theorem RR.map {α β : Type} {L : List Po.Tok} {r : Option (α × List Po.Tok)} {x : α} {k1 : Int} {g : α → β} (h : RR L r x k1) : RR L (r.map fun y => (g y.1, y.2)) (g x) k1 := by
  cases r with
  | none => exact h
  | some y => exact ⟨congrArg g h.1, h.2⟩
theorem rmust_rr (L : List Po.Tok) (k : Int) (kd : Nat) (t : List UInt8) : RR L (Po.must kd t (Po.rest L k)) (rmust L k kd t).1 (rmust L k kd t).2 := by
  unfold rmust
  cases h : Po.must kd t (Po.rest L k) with
  | none => rfl
  | some x =>
    obtain ⟨x, r⟩ := x
    cases hr : Po.rest L k with
    | nil => rw [hr] at h; simp [Po.must] at h
    | cons y l =>
      rw [hr] at h
      simp only [Po.must] at h
      split at h
      · simp only [Option.some.injEq, Prod.mk.injEq] at h
        obtain ⟨rfl, rfl⟩ := h
        obtain ⟨h0, h1, -, h2⟩ := Po.rest_cons hr
        exact ⟨rfl, by simp only; omega, by simp only; omega, h2⟩
      · cases h
theorem rmust_neg (L : List Po.Tok) (kd : Nat) (t : List UInt8) : rmust L (-1) kd t = (⟨0, [], 0⟩, -1) := rfl
theorem isT_neg (L : List Po.Tok) (kd : Nat) (t : List UInt8) : Po.isT (Po.rest L (-1)) kd t = false := rfl
theorem rmust_pos (L : List Po.Tok) (k : Int) (kd : Nat) (t : List UInt8) : Po.Pos L (rmust L k kd t).2 := (rmust_rr L k kd t).pos
/-- a comparison -/
def rcmp (L : List Po.Tok) (k : Int) (kd : Nat) : Po.Nd × Int :=
  if Po.isT (Po.rest L k) 3 [61, 61] then (⟨kd, (rmust L (k + 1) 2 []).1.n, 0, 0, Po.zero16, []⟩, (rmust L (k + 1) 2 []).2)
  else (⟨kd + 1, (rmust L (rmust L k 3 [62, 61]).2 2 []).1.n, 0, 0, Po.zero16, []⟩, (rmust L (rmust L k 3 [62, 61]).2 2 []).2)
theorem rcmp_rr (L : List Po.Tok) (k : Int) (kd : Nat) : RR L (Po.compare kd (kd + 1) (Po.rest L k)) (rcmp L k kd).1 (rcmp L k kd).2 := by
  unfold rcmp Po.compare
  split
  · rename_i h
    obtain ⟨-, -, h2⟩ := Po.rest_tail h
    rw [← h2]
    exact (rmust_rr L (k + 1) 2 []).map (g := fun x => (⟨kd, x.n, 0, 0, Po.zero16, []⟩ : Po.Nd))
  · refine (rmust_rr L k 3 [62, 61]).bind (fun _ => ?_) (fun h => ?_)
    · exact (rmust_rr L _ 2 []).map (g := fun x => (⟨kd + 1, x.n, 0, 0, Po.zero16, []⟩ : Po.Nd))
    · simp only; rw [h, rmust_neg]
theorem rcmp_neg (L : List Po.Tok) (kd : Nat) : (rcmp L (-1) kd).2 = -1 := by
  unfold rcmp
  rw [isT_neg, if_neg (by decide)]
  rfl
theorem rcmp_form (L : List Po.Tok) (k : Int) (kd : Nat) : (rcmp L k kd).1.dg.length = 16 ∧ (rcmp L k kd).1.of = [] := by
  unfold rcmp
  split <;> exact ⟨rfl, rfl⟩
section
variable {L : List Po.Tok} {k : Int}
theorem word_pos (h : (rmust L k 1 []).1.t ≠ []) : (rmust L k 1 []).2 ≠ -1 := by
  intro h2
  have := rmust_rr L k 1 []
  unfold rmust at h h2
  cases e : Po.must 1 [] (Po.rest L k) with
  | none => rw [e] at h; exact h rfl
  | some x =>
    rw [e] at h2 this
    simp only at h2
    have h3 := this.2.1
    unfold rmust at h3
    rw [e] at h3
    simp only at h3
    omega
theorem ratom_any (h : (rmust L k 1 []).1.t = [97, 110, 121]) : RR L (Po.atom (Po.rest L k)) ⟨1, 0, 0, 0, Po.zero16, []⟩ (rmust L k 1 []).2 := by
  unfold Po.atom
  refine (rmust_rr L k 1 []).bind (fun h0 => ?_) id
  simp only
  rw [if_pos (by rw [h]; exact Po.str_parts.1.symm)]
  exact ⟨rfl, h0, (rmust_pos L k 1 []).2, rfl⟩
theorem ratom_version (h : (rmust L k 1 []).1.t = [118, 101, 114, 115, 105, 111, 110]) : RR L (Po.atom (Po.rest L k)) (rcmp L (rmust L k 1 []).2 2).1 (rcmp L (rmust L k 1 []).2 2).2 := by
  obtain ⟨s1, s2, s3, s4, s5, s6, s7, s8, s9⟩ := Po.str_parts
  unfold Po.atom
  refine (rmust_rr L k 1 []).bind (fun h0 => ?_) (fun h => by rw [h, rcmp_neg])
  simp only [s1, s2, h]
  rw [if_neg (by decide), if_pos (by first | trivial | rfl)]
  exact rcmp_rr _ _ _
theorem ratom_epoch (h : (rmust L k 1 []).1.t = [101, 112, 111, 99, 104]) : RR L (Po.atom (Po.rest L k)) (rcmp L (rmust L k 1 []).2 4).1 (rcmp L (rmust L k 1 []).2 4).2 := by
  obtain ⟨s1, s2, s3, s4, s5, s6, s7, s8, s9⟩ := Po.str_parts
  unfold Po.atom
  refine (rmust_rr L k 1 []).bind (fun h0 => ?_) (fun h => by rw [h, rcmp_neg])
  simp only [s1, s2, s3, h]
  rw [if_neg (by decide), if_neg (by decide), if_pos (by first | trivial | rfl)]
  exact rcmp_rr _ _ _
theorem ratom_stage {d : List Nat} {k' : Int} (h : (rmust L k 1 []).1.t = [115, 116, 97, 103, 101]) (hd : RR L (Po.digestF 4 (Po.rest L (rmust L (rmust L (rmust L k 1 []).2 2 []).2 1 [105, 115]).2)) d k') :
    RR L (Po.atom (Po.rest L k)) ⟨6, (rmust L (rmust L k 1 []).2 2 []).1.n, 0, 0, d, []⟩ k' := by
  obtain ⟨s1, s2, s3, s4, s5, s6, s7, s8, s9⟩ := Po.str_parts
  have hneg : (rmust L (rmust L (rmust L k 1 []).2 2 []).2 1 [105, 115]).2 = -1 → k' = -1 := fun h => by rw [h] at hd; exact hd
  unfold Po.atom
  refine (rmust_rr L k 1 []).bind (fun h0 => ?_) (fun h => hneg (by rw [h]; rfl))
  simp only [s1, s2, s3, s4, s5, h]
  rw [if_neg (by decide), if_neg (by decide), if_neg (by decide), if_pos (by first | trivial | rfl)]
  refine (rmust_rr L _ 2 []).bind (fun h0 => ?_) (fun h => hneg (by rw [h]; rfl))
  refine (rmust_rr L _ 1 [105, 115]).bind (fun h0 => ?_) hneg
  exact hd.map (g := fun d => (⟨6, (rmust L (rmust L k 1 []).2 2 []).1.n, 0, 0, d, []⟩ : Po.Nd))
/-- the positions of the atom 'point' -/
def pt1 (L : List Po.Tok) (k : Int) : Po.Tok × Int := rmust L (rmust L k 1 []).2 2 []
def pt2 (L : List Po.Tok) (k : Int) : Po.Tok × Int := rmust L (pt1 L k).2 2 []
def pt3 (L : List Po.Tok) (k : Int) : Po.Tok × Int := rmust L (pt2 L k).2 1 [116, 111, 111, 107]
def pt4 (L : List Po.Tok) (k : Int) : Po.Tok × Int := rmust L (pt3 L k).2 1 [102, 97, 108, 115, 101]
theorem pt3_neg (h : (rmust L k 1 []).2 = -1) : (pt3 L k).2 = -1 := by unfold pt3 pt2 pt1; rw [h]; rfl
theorem pt3_neg1 (h : (pt1 L k).2 = -1) : (pt3 L k).2 = -1 := by unfold pt3 pt2; rw [h]; rfl
theorem pt3_neg2 (h : (pt2 L k).2 = -1) : (pt3 L k).2 = -1 := by unfold pt3; rw [h]; rfl
theorem ratom_point {x : Po.Nd} {k' : Int} (h : (rmust L k 1 []).1.t = [112, 111, 105, 110, 116]) (hn : (pt3 L k).2 = -1 → k' = -1)
    (hx : 0 ≤ (pt3 L k).2 → RR L (if Po.isT (Po.rest L (pt3 L k).2) 1 [116, 114, 117, 101] then some ((⟨7, (pt1 L k).1.n, (pt2 L k).1.n, 1, Po.zero16, []⟩ : Po.Nd), (Po.rest L (pt3 L k).2).tail) else (Po.must 1 [102, 97, 108, 115, 101] (Po.rest L (pt3 L k).2)).map fun u => (⟨7, (pt1 L k).1.n, (pt2 L k).1.n, 2, Po.zero16, []⟩, u.2)) x k') :
    RR L (Po.atom (Po.rest L k)) x k' := by
  obtain ⟨s1, s2, s3, s4, s5, s6, s7, s8, s9⟩ := Po.str_parts
  unfold Po.atom
  refine (rmust_rr L k 1 []).bind (fun h0 => ?_) (fun h => hn (pt3_neg h))
  simp only [s1, s2, s3, s4, s5, s6, s7, s8, s9, h]
  rw [if_neg (by decide), if_neg (by decide), if_neg (by decide), if_neg (by decide), if_pos (by first | trivial | rfl)]
  refine (rmust_rr L _ 2 []).bind (fun h0 => ?_) (fun h => hn (pt3_neg1 h))
  refine (rmust_rr L _ 2 []).bind (fun h0 => ?_) (fun h => hn (pt3_neg2 h))
  refine (rmust_rr L _ 1 [116, 111, 111, 107]).bind (fun h0 => ?_) hn
  exact hx h0
theorem ratom_yes (h : (rmust L k 1 []).1.t = [112, 111, 105, 110, 116]) (hy : Po.isT (Po.rest L (pt3 L k).2) 1 [116, 114, 117, 101] = true) :
    RR L (Po.atom (Po.rest L k)) ⟨7, (pt1 L k).1.n, (pt2 L k).1.n, 1, Po.zero16, []⟩ ((pt3 L k).2 + 1) := by
  refine ratom_point h (fun h => by rw [h] at hy; cases hy) (fun _ => ?_)
  rw [if_pos hy]
  obtain ⟨h0, h1, h2⟩ := Po.rest_tail hy
  exact ⟨rfl, by omega, by omega, h2⟩
theorem ratom_no (h : (rmust L k 1 []).1.t = [112, 111, 105, 110, 116]) (hy : Po.isT (Po.rest L (pt3 L k).2) 1 [116, 114, 117, 101] = false) :
    RR L (Po.atom (Po.rest L k)) ⟨7, (pt1 L k).1.n, (pt2 L k).1.n, 2, Po.zero16, []⟩ (pt4 L k).2 := by
  refine ratom_point h (fun h => by unfold pt4; rw [h]; rfl) (fun _ => ?_)
  rw [if_neg (by rw [hy]; decide)]
  exact (rmust_rr L _ 1 _).map (g := fun _ => (⟨7, (pt1 L k).1.n, (pt2 L k).1.n, 2, Po.zero16, []⟩ : Po.Nd))
theorem ratom_none (h1 : (rmust L k 1 []).1.t ≠ [97, 110, 121]) (h2 : (rmust L k 1 []).1.t ≠ [118, 101, 114, 115, 105, 111, 110]) (h3 : (rmust L k 1 []).1.t ≠ [101, 112, 111, 99, 104]) (h4 : (rmust L k 1 []).1.t ≠ [115, 116, 97, 103, 101]) (h5 : (rmust L k 1 []).1.t ≠ [112, 111, 105, 110, 116]) (x : Po.Nd) :
    RR L (Po.atom (Po.rest L k)) x (-1) := by
  obtain ⟨s1, s2, s3, s4, s5, s6, s7, s8, s9⟩ := Po.str_parts
  unfold Po.atom
  refine (rmust_rr L k 1 []).bind (fun h0 => ?_) (fun _ => rfl)
  simp only [s1, s2, s3, s4, s6]
  rw [if_neg h1, if_neg h2, if_neg h3, if_neg h4, if_neg h5]
  rfl
end
end Go.Proofs.YtdolpmmnjndfkaaGreatDoor
namespace Go.Proofs.YtdolpmmnjndfkaaGreatDoor
open Po
section
variable {L : List Tok} {k k1 : Int} {o o1 : List Nd} {t : List UInt8}
theorem rest_step (hb : isT (rest L k) 3 t = true) : (rest L (k + 1)) = (rest L k).tail ∧ (rest L (k + 1)).length + 1 = (rest L k).length ∧ 0 ≤ k + 1 ∧ Pos L (k + 1) := by
  obtain ⟨h0, h1, h2⟩ := rest_tail hb
  exact ⟨h2, by rw [h2]; exact isT_len hb, by omega, ⟨by omega, by omega⟩⟩
def bangNd (a : Nat) : Nd := ⟨8, 0, 0, 0, zero16, [a]⟩
theorem pr_bang {q : Option (List Tok × List Nd)} (hb : isT (rest L k) 3 t = true) (h : PR L (k + 1) o q k1 o1) : PR L k o (q.map fun x => (x.1, x.2 ++ [bangNd (x.2.length - 1)])) k1 (o1 ++ [bangNd (o1.length - 1)]) := by
  obtain ⟨-, hl, -⟩ := rest_step hb
  cases q with
  | none => exact ⟨h.1, by have := h.2; simp only [List.length_append, List.length_singleton]; omega⟩
  | some x =>
    obtain ⟨h1, h2, h3, h4⟩ := h
    exact ⟨h1, h2, h3, by rw [h4]⟩
theorem pr_paren {f : Nat} {q : Option (List Tok × List Nd)} (hb : isT (rest L k) 3 t = true) (hq : P f 0 (rest L (k + 1)) o = some q) (h : PR L (k + 1) o q k1 o1) : PR L k o (q.bind fun x => (must 3 [41] x.1).map fun y => (y.2, x.2)) (rmust L k1 3 [41]).2 o1 := by
  obtain ⟨-, hl, -⟩ := rest_step hb
  cases q with
  | none =>
    have h1 : k1 = -1 := h.1
    subst h1
    exact ⟨rfl, by have := h.2; omega⟩
  | some x =>
    obtain ⟨h1, h2, h3, h4⟩ := h
    have hn := P_nodes _ _ _ _ _ _ hq
    have hr := rmust_rr L k1 3 [41]
    rw [h3] at hr
    simp only [Option.bind_some]
    cases hm : must 3 [41] x.1 with
    | none =>
      rw [hm] at hr
      exact ⟨hr, by rw [h4]; omega⟩
    | some y =>
      rw [hm] at hr
      exact ⟨hr.2.1, hr.2.2.1, hr.2.2.2, h4⟩
theorem pr_atom {x : Nd} (h : RR L (atom (rest L k)) x k1) : PR L k o ((atom (rest L k)).map fun x => (x.2, o ++ [x.1])) k1 (o ++ [x]) := by
  cases ha : atom (rest L k) with
  | none => rw [ha] at h; exact ⟨h, by simp⟩
  | some y =>
    rw [ha] at h
    obtain ⟨h1, h2, h3, h4⟩ := h
    exact ⟨h2, h3, h4, by rw [h1]⟩
theorem pr_few {f lv : Nat} {r : Option (List Tok × List Nd)} (hr : P f lv (rest L k) o = some r) (h : PR L k o r k1 o1) (hf : o.length + (rest L k).length ≤ 3000) : o1.length ≤ 10000 := by
  cases r with
  | none => have := h.2; omega
  | some x =>
    have := P_nodes _ _ _ _ _ _ hr
    rw [h.2.2.2]; omega
theorem pr_pos {r : Option (List Tok × List Nd)} (h : PR L k o r k1 o1) : Pos L k1 := by
  cases r with
  | none => have : k1 = -1 := h.1; exact ⟨by omega, by omega⟩
  | some x => exact ⟨by have := h.1; omega, h.2.1⟩
/-- the loop of a chain: the level's sign and kind -/
def sgn (lv : Nat) : List UInt8 := if lv = 0 then [124, 124] else [38, 38]
def binNd (lv a b : Nat) : Nd := ⟨10 - lv, 0, 0, 0, zero16, [a, b]⟩
theorem P_lv {f lv : Nat} {l : List Tok} {o : List Nd} (h : lv < 2) : P (f + 1) lv l o = bindP (P f (lv + 1) l o) fun x => P f (lv + 3) x.1 x.2 := by
  have : lv = 0 ∨ lv = 1 := by omega
  rcases this with rfl | rfl
  · exact P_or
  · exact P_and
theorem P_lstop {f lv : Nat} {l : List Tok} {o : List Nd} (hlv : lv < 2) (h : isT l 3 (sgn lv) = false) : P (f + 1) (lv + 3) l o = some (some (l, o)) := by
  have : lv = 0 ∨ lv = 1 := by omega
  rcases this with rfl | rfl
  · exact P_stop3 h
  · exact P_stop4 h
theorem P_lmore {f lv : Nat} {l : List Tok} {o : List Nd} (hlv : lv < 2) (h : isT l 3 (sgn lv) = true) : P (f + 1) (lv + 3) l o = bindP (P f (lv + 1) l.tail o) fun x => P f (lv + 3) x.1 (x.2 ++ [binNd lv (o.length - 1) (x.2.length - 1)]) := by
  have : lv = 0 ∨ lv = 1 := by omega
  rcases this with rfl | rfl
  · exact P_more3 h
  · exact P_more4 h
/-- the state of the loop: good, with what is left to do; or bad -/
def LpAt (L : List Tok) (k : Int) (o : List Nd) (r : Option (List Tok × List Nd)) (lv g : Nat) (k1 : Int) (o1 : List Nd) : Prop :=
  (0 ≤ k1 ∧ Pos L k1 ∧ P g (lv + 3) (rest L k1) o1 = some r ∧ OkAll o1 ∧ o1.length + (rest L k1).length ≤ o.length + (rest L k).length ∧ (rest L k1).length ≤ (rest L k).length) ∨ (k1 = -1 ∧ r = none ∧ o1.length ≤ o.length + 2 * (rest L k).length + 1)
theorem oktoks_rest (ht : OkToks L) (k : Int) : OkToks (rest L k) := fun y hy => ht y (by
  unfold rest at hy
  split at hy
  · simp at hy
  · exact List.mem_of_mem_drop hy)
theorem lp_first {f lv : Nat} {r q : Option (List Tok × List Nd)} (_hlv : lv < 2) (ht : OkToks L) (ho : OkAll o) (hq : P f (lv + 1) (rest L k) o = some q) (hr : bindP (some q) (fun x => P f (lv + 3) x.1 x.2) = some r) (h : PR L k o q k1 o1) : LpAt L k o r lv f k1 o1 := by
  cases q with
  | none =>
    have : r = none := (Option.some.inj hr).symm
    exact .inr ⟨h.1, this, h.2⟩
  | some x =>
    obtain ⟨h1, h2, h3, h4⟩ := h
    have hok := P_ok _ _ _ _ _ _ (oktoks_rest ht k) ho hq
    have hn := P_nodes _ _ _ _ _ _ hq
    have hl := P_len _ _ _ _ _ _ hq
    refine .inl ⟨h1, ⟨by omega, h2⟩, by rw [h3, h4]; exact hr, by rw [h4]; exact hok.2.1, by rw [h3, h4]; exact hn, ?_⟩
    rw [h3]
    split at hl <;> omega
theorem lp_next {g lv : Nat} {r q : Option (List Tok × List Nd)} {k2 : Int} {o2 : List Nd} (hlv : lv < 2) (ht : OkToks L) (h0 : 0 < o1.length) (h : 0 ≤ k1 ∧ Pos L k1 ∧ P (g + 1) (lv + 3) (rest L k1) o1 = some r ∧ OkAll o1 ∧ o1.length + (rest L k1).length ≤ o.length + (rest L k).length ∧ (rest L k1).length ≤ (rest L k).length)
    (hb : isT (rest L k1) 3 (sgn lv) = true) (hq : P g (lv + 1) (rest L (k1 + 1)) o1 = some q) (h2 : PR L (k1 + 1) o1 q k2 o2) : LpAt L k o r lv g k2 (o2 ++ [binNd lv (o1.length - 1) (o2.length - 1)]) := by
  obtain ⟨-, -, hr, hok, hn, hl⟩ := h
  obtain ⟨e1, e2, -, -⟩ := rest_step hb
  rw [P_lmore hlv hb, ← e1, hq] at hr
  cases q with
  | none =>
    have : r = none := (Option.some.inj hr).symm
    refine .inr ⟨h2.1, this, ?_⟩
    have := h2.2
    simp only [List.length_append, List.length_singleton]
    omega
  | some x =>
    obtain ⟨p1, p2, p3, p4⟩ := h2
    have hok2 := P_ok _ _ _ _ _ _ (oktoks_rest ht (k1 + 1)) hok hq
    have hn2 := P_nodes _ _ _ _ _ _ hq
    have hlen := P_len _ _ _ _ _ _ hq
    have hgt := hok2.2.2.2 (by omega) (by omega)
    refine .inl ⟨p1, ⟨by omega, p2⟩, by rw [p3, p4]; exact hr, ?_, ?_, ?_⟩
    · rw [p4]
      exact hok2.2.1.snoc (ok_bin (by have : lv = 0 ∨ lv = 1 := by omega
                                      rcases this with rfl | rfl <;> simp) (by omega) (by omega))
    · rw [p3, p4]; simp only [List.length_append, List.length_singleton]; omega
    · rw [p3]
      split at hlen <;> omega
theorem lp_few {r : Option (List Tok × List Nd)} {lv g : Nat} (h : LpAt L k o r lv g k1 o1) (hf : o.length + (rest L k).length ≤ 3000) : o1.length ≤ 10000 ∧ Pos L k1 := by
  rcases h with h | h
  · exact ⟨by omega, h.2.1⟩
  · exact ⟨by omega, ⟨by omega, by omega⟩⟩
theorem lp_bad {r : Option (List Tok × List Nd)} (h : k1 = -1 ∧ r = none ∧ o1.length ≤ o.length + 2 * (rest L k).length + 1) : PR L k o r k1 o1 := by
  rw [h.2.1]; exact ⟨h.1, h.2.2⟩
theorem lp_stop {g lv : Nat} {r : Option (List Tok × List Nd)} (hlv : lv < 2) (h : 0 ≤ k1 ∧ Pos L k1 ∧ P (g + 1) (lv + 3) (rest L k1) o1 = some r) (hb : isT (rest L k1) 3 (sgn lv) = false) : PR L k o r k1 o1 := by
  obtain ⟨h0, hp, hr⟩ := h
  rw [P_lstop hlv hb] at hr
  rw [← Option.some.inj hr]
  exact ⟨h0, hp.2, rfl, rfl⟩
end
end Go.Proofs.YtdolpmmnjndfkaaGreatDoor
