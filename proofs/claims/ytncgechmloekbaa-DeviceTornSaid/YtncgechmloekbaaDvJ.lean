/- Device: the four closures that run an access, under one contract; what Do says, in plain words. -/
import Derived.Test.YtncgechmloekbaaDvI
namespace Go.Proofs.Ytncgechmloekbaa
open Go.RowKit

/-- what a kind of access does, its test passed -/
def runV (k : Int) (f : List (List Nat)) (b c : Int) (noise : Bool) : Int := if k = 1 then Fz.readV f b c noise else 0
def runB (k : Int) (m : List ByteArray) (c : Int) : ByteArray := if k = 3 then Fm.Fl.readV m c else ⟨#[]⟩
def runE (k : Int) (f : List (List Nat)) (m : List ByteArray) (b c : Int) (s : ByteArray) : Int :=
  if k = 1 ∨ k = 2 then Fz.readE f b c else if k = 3 then Fm.Fl.readE m c else Fm.Fl.writeE m c s
def runF (k : Int) (f : List (List Nat)) (b c : Int) (cut : Bool) : List (List Nat) := if k = 2 then Fz.pulse f b c cut else f
def runM (k : Int) (m : List ByteArray) (c : Int) (s : ByteArray) (cut : Bool) (nb : Int) : List ByteArray := if k = 4 then Fm.Fl.write m c s (cutOf cut nb) else m

/-- the two lists of a Hardware, and the block that it lies in -/
structure HwAt (w : World) (ok : Nat → Prop) (p : Nat) (cs : Array Value) (T : TypeId) (f : List (List Nat)) (m : List ByteArray) : Prop where
  bar : ∀ x, ok x → x < w.heap.size ∧ x ≠ p
  lies : w.heap[p]? = some (.cells cs T (0, 0))
  rows : ∃ v, cs[0]? = some v ∧ RRowsK w ok v f
  strs : ∃ u, cs[1]? = some u ∧ StrsK w ok u m

/-- what a closure says that runs an access -/
def RunSays (w : World) (p : Nat) (ok : Nat → Prop) (cs : Array Value) (T : TypeId) (V : Int) (B : ByteArray) (E : Int) (F : List (List Nat)) (M : List ByteArray) (e : Ending) (w' : World) : Prop :=
  ∃ v' u', e = .returned (.tuple #[.agg #[.int .i64 V, .string B], .int .i64 E]) ∧ RRowsK w' (fun x => ok x ∨ w.heap.size ≤ x) v' F ∧ StrsK w' (fun x => ok x ∨ w.heap.size ≤ x) u' M ∧
    w'.heap[p]? = some (.cells ((cs.setIfInBounds 0 v').setIfInBounds 1 u') T (0, 0)) ∧ w.grownBy w' (some p)

section
variable {w : World} {ok : Nat → Prop} {p : Nat} {cs : Array Value} {T : TypeId} {f : List (List Nat)} {m : List ByteArray}
theorem HwAt.lt (h : HwAt w ok p cs T f m) : p < w.heap.size := by
  have := h.lies
  exact (Array.getElem?_eq_some_iff.1 this).1
theorem says_same {V : Int} {B : ByteArray} {E : Int} {e : Ending} {w' : World} (h : HwAt w ok p cs T f m) (he : e = .returned (.tuple #[.agg #[.int .i64 V, .string B], .int .i64 E])) (hb : Below w.heap.size w w') :
    RunSays w p ok cs T V B E f m e w' := by
  obtain ⟨v, hv, hk⟩ := h.rows
  obtain ⟨u, hu, hm⟩ := h.strs
  refine ⟨v, u, he, (hk.below hb).keep (fun _ _ => rfl) (fun _ h => .inl h), (hm.below hb).keep (fun _ _ => rfl) (fun _ h => .inl h), ?_, grown_of_below hb⟩
  rw [set_same hv, set_same hu]
  exact (hb.block p h.lt).trans h.lies
theorem get_set_far {cs : Array Value} {i j : Nat} {v u : Value} (h : cs[i]? = some v) (hij : i ≠ j) : (cs.setIfInBounds j u)[i]? = some v := by
  rw [Array.getElem?_setIfInBounds, if_neg (fun e => hij e.symm)]; exact h
theorem says_rows {V : Int} {B : ByteArray} {E : Int} {F : List (List Nat)} {e : Ending} {w' : World} {v' : Value} (h : HwAt w ok p cs T f m) (he : e = .returned (.tuple #[.agg #[.int .i64 V, .string B], .int .i64 E]))
    (hk : RRowsK w' (fun x => ok x ∨ w.heap.size ≤ x) v' F) (hp : w'.heap[p]? = some (.cells (cs.setIfInBounds 0 v') T (0, 0))) (hg : w.grownBy w' (some p)) :
    RunSays w p ok cs T V B E F m e w' := by
  obtain ⟨u, hu, hm⟩ := h.strs
  refine ⟨v', u, he, hk, hm.keep (fun x hx => hg.block x (h.bar x hx).1 (by have := (h.bar x hx).2; simpa using this)) (fun _ h => .inl h), ?_, hg⟩
  rw [set_same (get_set_far hu (by decide))]
  exact hp
theorem says_strs {V : Int} {B : ByteArray} {E : Int} {M : List ByteArray} {e : Ending} {w' : World} {u' : Value} (h : HwAt w ok p cs T f m) (he : e = .returned (.tuple #[.agg #[.int .i64 V, .string B], .int .i64 E]))
    (hk : StrsK w' (fun x => ok x ∨ w.heap.size ≤ x) u' M) (hp : w'.heap[p]? = some (.cells (cs.setIfInBounds 1 u') T (0, 0))) (hg : w.grownBy w' (some p)) :
    RunSays w p ok cs T V B E f M e w' := by
  obtain ⟨v, hv, hk2⟩ := h.rows
  refine ⟨v, u', he, hk2.keep (fun x hx => hg.block x (h.bar x hx).1 (by have := (h.bar x hx).2; simpa using this)) (fun _ h => .inl h), hk, ?_, hg⟩
  rw [set_same hv]
  exact hp
end

section
variable (b c : Int) (s : ByteArray) (cut noise : Bool) (nb : Int) {w : World} {ok : Nat → Prop} {p : Nat} {cs : Array Value} {T : TypeId} {f : List (List Nat)} {m : List ByteArray}
theorem run2_says (h : HwAt w ok p cs T f m) :
    Calls Try.prog 39 #[.pointer (some ⟨p, 0, none⟩), .agg #[.int .i64 1, .int .i64 b, .int .i64 c, .string s], .agg #[.bool cut, .int .i64 nb, .bool noise]] w
      (RunSays w p ok cs T (runV 1 f b c noise) (runB 1 m c) (runE 1 f m b c s) (runF 1 f b c cut) (runM 1 m c s cut nb)) := by
  obtain ⟨v, hv, hk⟩ := h.rows
  refine (run2_any 1 b c s cut noise nb p v f w hk.plain (cell_block h.lies hv)).mono ?_
  rintro e w' ⟨he, hb⟩
  exact says_same h he hb
theorem run5_says (h : HwAt w ok p cs T f m) :
    Calls Try.prog 44 #[.pointer (some ⟨p, 0, none⟩), .agg #[.int .i64 3, .int .i64 b, .int .i64 c, .string s], .agg #[.bool cut, .int .i64 nb, .bool noise]] w
      (RunSays w p ok cs T (runV 3 f b c noise) (runB 3 m c) (runE 3 f m b c s) (runF 3 f b c cut) (runM 3 m c s cut nb)) := by
  obtain ⟨u, hu, hm⟩ := h.strs
  refine (run5_any 3 b c s cut noise nb p u m w hm.plain (cell_block h.lies hu)).mono ?_
  rintro e w' ⟨he, hb⟩
  exact says_same h he hb
theorem run3_says (h : HwAt w ok p cs T f m) (hS : Fz.small f) :
    Calls Try.prog 41 #[.pointer (some ⟨p, 0, none⟩), .agg #[.int .i64 2, .int .i64 b, .int .i64 c, .string s], .agg #[.bool cut, .int .i64 nb, .bool noise]] w
      (RunSays w p ok cs T (runV 2 f b c noise) (runB 2 m c) (runE 2 f m b c s) (runF 2 f b c cut) (runM 2 m c s cut nb)) := by
  obtain ⟨v, hv, hk⟩ := h.rows
  refine (run3_any 2 b c s cut noise nb p v f w ok h.bar hk hS cs T h.lies (cell_block h.lies hv)).mono ?_
  rintro e w' ⟨v', he, hk', hp, hg⟩
  exact says_rows h he hk' hp hg
theorem run7_says (h : HwAt w ok p cs T f m) (hlen : m.length ≤ 1000) (hbm : s.size ≤ maxLen) :
    Calls Try.prog 47 #[.pointer (some ⟨p, 0, none⟩), .agg #[.int .i64 4, .int .i64 b, .int .i64 c, .string s], .agg #[.bool cut, .int .i64 nb, .bool noise]] w
      (RunSays w p ok cs T (runV 4 f b c noise) (runB 4 m c) (runE 4 f m b c s) (runF 4 f b c cut) (runM 4 m c s cut nb)) := by
  obtain ⟨u, hu, hm⟩ := h.strs
  refine (run7_any 4 b c s cut noise nb p u m w ok h.bar hm hlen hbm cs T h.lies (cell_block h.lies hu)).mono ?_
  rintro e w' ⟨u', he, hk', hp, hg⟩
  exact says_strs h he hk' hp hg
end

/-- whether an access is one at all -/
def kindOK (k b : Int) (s : ByteArray) : Bool := ((k == 1 || k == 2) && isEmpty s) || (k == 3 && (isEmpty s && b == 0)) || (k == 4 && b == 0)
/-- Do: whether it is done -/
def doneB (f : List (List Nat)) (m : List ByteArray) (k b c : Int) (s : ByteArray) : Bool := kindOK k b s && decide (runE k f m b c s = 0)
def doE (f : List (List Nat)) (m : List ByteArray) (k b c : Int) (s : ByteArray) : Int := if kindOK k b s then runE k f m b c s else 1
def doF (f : List (List Nat)) (m : List ByteArray) (k b c : Int) (s : ByteArray) (cut : Bool) : List (List Nat) := if doneB f m k b c s then runF k f b c cut else f
def doM (f : List (List Nat)) (m : List ByteArray) (k b c : Int) (s : ByteArray) (cut : Bool) (nb : Int) : List ByteArray := if doneB f m k b c s then runM k m c s cut nb else m
def doV (f : List (List Nat)) (m : List ByteArray) (k b c : Int) (s : ByteArray) (cut noise : Bool) : Int := if doneB f m k b c s && !cut then runV k f b c noise else 0
def doB (f : List (List Nat)) (m : List ByteArray) (k b c : Int) (s : ByteArray) (cut : Bool) : ByteArray := if doneB f m k b c s && !cut then runB k m c else ⟨#[]⟩
/-- what Do says of its call -/
def DoSays (w : World) (ok : Nat → Prop) (cs : Array Value) (f : List (List Nat)) (m : List ByteArray) (k b c : Int) (s : ByteArray) (cut : Bool) (nb : Int) (noise : Bool) (e : Ending) (w' : World) : Prop :=
  ∃ v' u', e = .returned (.tuple #[.agg ((cs.setIfInBounds 0 v').setIfInBounds 1 u'), .agg #[.int .i64 (doV f m k b c s cut noise), .string (doB f m k b c s cut)], .int .i64 (doE f m k b c s)]) ∧
    RRowsK w' (fun x => ok x ∨ w.heap.size ≤ x) v' (doF f m k b c s cut) ∧ StrsK w' (fun x => ok x ∨ w.heap.size ≤ x) u' (doM f m k b c s cut nb) ∧ Below w.heap.size w w'

end Go.Proofs.Ytncgechmloekbaa
