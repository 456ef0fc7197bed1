/- Chapter 29, the walk: is, accept, must of the parser. -/
import Derived.Test.YtdolpmmnjndfkaaGreatDoorPoPs
import Derived.Test.YtdolpmmnjndfkaaGreatDoorPoLxB
import Derived.WalkSmall
import Derived.Deep.Cut
namespace Go.Proofs.YtdolpmmnjndfkaaGreatDoor
open Go.RowKit
theorem two_cells {W : World} {B : Nat} {a b : Value} {t : TypeId} (h : W.heap[B]? = some (.cells #[a, b] t (0, 0))) :
    W.cell? ⟨B, 0, none⟩ = some a ∧ W.cell? ⟨B, 1, none⟩ = some b ∧ ∀ o, W.frozen? ⟨B, o, none⟩ = false := by
  refine ⟨?_, ?_, fun o => ?_⟩ <;> simp [World.cell?, World.frozen?, h]
theorem RToks.head {w : World} {B : Nat} {A : Option Addr} {n c : Nat} {x : Po.Tok} {r : List Po.Tok} (h : RToks w B (.slice A n c) (x :: r)) :
    ∃ b o, A = some ⟨b, o, none⟩ ∧ b < B ∧ n = r.length + 1 ∧ n ≤ c ∧ c ≤ maxLen ∧ ∃ a : Int, w.cell? ⟨b, o, none⟩ = some (.int .i64 x.k) ∧ w.cell? ⟨b, o + 1, none⟩ = some (.string ⟨x.t.toArray⟩) ∧ w.cell? ⟨b, o + 2, none⟩ = some (.int .i64 x.n) ∧ w.cell? ⟨b, o + 3, none⟩ = some (.int .i64 a) := by
  obtain ⟨A', c', h1, h2, h3, h4⟩ := h
  cases h1
  obtain ⟨b, o, hA, hlt, hc⟩ := h4 (by simp)
  obtain ⟨a, a0, a1, a2, a3⟩ := hc 0 x rfl
  simp only [Nat.zero_mul, Nat.add_zero] at a0 a1 a2 a3
  exact ⟨b, o, hA, hlt, by simp, h2, h3, a, a0, a1, a2, a3⟩
theorem RToks.nil {w : World} {B : Nat} {A : Option Addr} {n c : Nat} (h : RToks w B (.slice A n c) []) : n = 0 := by
  obtain ⟨A', c', h1, h2, h3, h4⟩ := h
  cases h1
  rfl
theorem RToks.form {w : World} {B : Nat} {v : Value} {l : List Po.Tok} (h : RToks w B v l) : ∃ A c, v = .slice A l.length c ∧ l.length ≤ c ∧ c ≤ maxLen := by
  obtain ⟨A, c, h1, h2, h3, _⟩ := h
  exact ⟨A, c, h1, h2, h3⟩
set_option maxRecDepth 1000000 in
theorem pa_is {p : Nat} {l : List Po.Tok} {o : List Po.Nd} {own : Option Nat} (k : Nat) (t : ByteArray) (w : World) (h : PsAt p w l o own) :
    Calls Tryz.prog 113 #[.pointer (some ⟨p, 0, none⟩), .int .i64 k, .string t] w fun e w' => e = .returned (.bool (Po.isT l k t.data.toList)) ∧ w' = w := by
  obtain ⟨vl, vo, ofs, hc, ht, -, -⟩ := h
  obtain ⟨A, c, rfl, -, -⟩ := ht.form
  obtain ⟨c0, c1, -⟩ := two_cells hc
  cases l with
  | nil =>
    clear ht hc
    go_enter Tryz.func113, Tryz.ntmps113
    go_wp2_with fail
    go_ret
    exact ⟨rfl, rfl⟩
  | cons x r =>
    obtain ⟨b, off, rfl, -, -, -, -, a, a0, a1, a2, a3⟩ := ht.head
    obtain ⟨n, hn⟩ : ∃ n, (x :: r).length = n := ⟨_, rfl⟩
    have hn1 : (0 : Int) < n := by simp at hn; omega
    have hn2 : 0 ≤ (0 : Int) ∧ (0 : Int) < n := by omega
    rw [hn] at c0
    have HX := Lib.hid (show Po.isT (x :: r) k t.data.toList = (x.k == k && (t.data.toList == [] || x.t == t.data.toList)) from rfl)
    clear ht hc hn a2 a3
    go_enter Tryz.func113, Tryz.ntmps113
    go_wp2_with fail
    · have e : x.k = k := by omega
      go_ret
      refine ⟨ret_bool ?_, rfl⟩
      rw [HX.out, ← Lib.toList_data]
      simp_all
    · have e : x.k = k := by omega
      go_ret
      refine ⟨ret_bool ?_, rfl⟩
      rw [HX.out, ← Lib.toList_data, e]
      cases t.toList <;> simp
    · have e : ¬ x.k = k := by omega
      go_ret
      refine ⟨ret_bool ?_, rfl⟩
      rw [HX.out]
      simp [e]
/-- what a method call that only eats tokens leaves: the parser's first field alone has turned -/
structure Eats (p : Nat) (w : World) (l : List Po.Tok) (w' : World) : Prop where
  fr : Fr p none w w'
  st : ∃ vl vl' vo, w.heap[p]? = some (.cells #[vl, vo] 94 (0, 0)) ∧ w'.heap[p]? = some (.cells #[vl', vo] 94 (0, 0)) ∧ RToks w' p vl' l
theorem Eats.at_ {p : Nat} {w w' : World} {l0 l : List Po.Tok} {o : List Po.Nd} {own : Option Nat} (h : Eats p w l w') (h0 : PsAt p w l0 o own) : PsAt p w' l o own := by
  obtain ⟨vl, vl', vo, h1, h2, h3⟩ := h.st
  exact h0.toks h1 h.fr h2 h3
theorem Eats.lt {p : Nat} {w w' : World} {l : List Po.Tok} (h : Eats p w l w') : p < w.heap.size := by
  obtain ⟨vl, vl', vo, h1, h2, h3⟩ := h.st
  exact lt_of_block h1
theorem Eats.refl {p : Nat} {w : World} {l : List Po.Tok} {o : List Po.Nd} {own : Option Nat} (h : PsAt p w l o own) : Eats p w l w := by
  obtain ⟨vl, vo, ofs, h1, h2, h3, h4⟩ := h
  exact ⟨.refl _ _ _, vl, vl, vo, h1, h1, h2⟩
theorem Eats.trans {p : Nat} {w w1 w2 : World} {l l2 : List Po.Tok} (h : Eats p w l w1) (h2 : Eats p w1 l2 w2) : Eats p w l2 w2 := by
  obtain ⟨vl, vl', vo, a1, a2, a3⟩ := h.st
  obtain ⟨ul, ul', uo, b1, b2, b3⟩ := h2.st
  rw [a2] at b1
  simp only [Option.some.injEq, Obj.cells.injEq, Array.mk.injEq, List.cons.injEq, and_true] at b1
  obtain ⟨rfl, rfl⟩ := b1
  exact ⟨h.fr.trans h2.fr (.refl _ _), vl, ul', vo, a1, b2, b3⟩
theorem Eats.later {p : Nat} {w w1 w2 : World} {l : List Po.Tok} (h : Eats p w l w1) (hb : ∀ k, k < w.heap.size → w2.heap[k]? = w1.heap[k]?) (hs : w1.heap.size ≤ w2.heap.size) (ho : w2.os = w1.os ∧ w2.tape = w1.tape ∧ w2.output = w1.output) : Eats p w l w2 := by
  have hp := h.lt
  obtain ⟨vl, vl', vo, a1, a2, a3⟩ := h.st
  exact ⟨⟨ho.1.trans h.fr.os, ho.2.1.trans h.fr.tape, ho.2.2.trans h.fr.output, Nat.le_trans h.fr.size hs, fun k hk hp hn => (hb k hk).trans (h.fr.block k hk hp hn)⟩, vl, vl', vo, a1, (hb p hp).trans a2, rtoks_frame a3 (fun k hk => hb k (by omega))⟩
theorem Eats.below {p : Nat} {w w1 w2 : World} {l : List Po.Tok} (h : Eats p w l w1) (hb : Below w.heap.size w1 w2) : Eats p w l w2 := h.later hb.block hb.size ⟨hb.os, hb.tape, hb.output⟩
theorem Eats.alloc {p : Nat} {w w1 : World} {l : List Po.Tok} (h : Eats p w l w1) (ob : Obj) : Eats p w l (w1.alloc ob) := h.below ((Below.new ob).mono h.fr.size)
theorem Eats.before {p : Nat} {w w1 w2 : World} {l : List Po.Tok} (h : Eats p w1 l w2) (hb : Below w.heap.size w w1) (hp : p < w.heap.size) : Eats p w l w2 := by
  obtain ⟨vl, vl', vo, a1, a2, a3⟩ := h.st
  exact ⟨(Fr.of_below hb).trans h.fr (.refl _ _), vl, vl', vo, (hb.block p hp).symm.trans a1, a2, a3⟩
theorem isT_cons {l : List Po.Tok} {k : Nat} {t : List UInt8} (h : Po.isT l k t = true) : ∃ x r, l = x :: r := by
  cases l with
  | nil => simp [Po.isT] at h
  | cons x r => exact ⟨x, r, rfl⟩
theorem RToks.tail {w : World} {B b o n c : Nat} {x : Po.Tok} {r : List Po.Tok} (h : RToks w B (.slice (some ⟨b, o, none⟩) (r.length + 1) c) (x :: r)) (A' : Option Addr) (hA : 0 < r.length → A' = some ⟨b, o + 4, none⟩) (hn : n = r.length) : RToks w B (.slice A' n (c - 1)) r := by
  subst hn
  obtain ⟨A0, c0, h1, h2, h3, h4⟩ := h
  cases h1
  obtain ⟨b', o', hA', hlt, hc⟩ := h4 (by simp)
  simp only [Option.some.injEq, Addr.mk.injEq, and_true] at hA'
  obtain ⟨rfl, rfl⟩ := hA'
  simp only [List.length_cons] at h2
  refine ⟨A', c - 1, rfl, by omega, by omega, fun hn => ⟨b, o + 4, hA hn, hlt, fun i y hy => ?_⟩⟩
  have := hc (i + 1) y (by simpa using hy)
  rw [show o + (i + 1) * 4 = o + 4 + i * 4 by omega] at this
  exact this
theorem set_first {w : World} {p : Nat} {a b v : Value} {t : TypeId} (h : w.heap[p]? = some (.cells #[a, b] t (0, 0))) : (w.setCell ⟨p, 0, none⟩ v).heap[p]? = some (.cells #[v, b] t (0, 0)) := by
  simp only [World.setCell, Array.getElem?_modify, h]
  simp
theorem set_second {w : World} {p : Nat} {a b v : Value} {t : TypeId} (h : w.heap[p]? = some (.cells #[a, b] t (0, 0))) : (w.setCell ⟨p, 1, none⟩ v).heap[p]? = some (.cells #[a, v] t (0, 0)) := by
  simp only [World.setCell, Array.getElem?_modify, h]
  simp
theorem set_other (w : World) (p o : Nat) (v : Value) (k : Nat) (h : k ≠ p) : (w.setCell ⟨p, o, none⟩ v).heap[k]? = w.heap[k]? := by
  simp only [World.setCell, Array.getElem?_modify]
  rw [if_neg (by omega)]
theorem Fr.set {p : Nat} {own : Option Nat} (w : World) (o : Nat) (v : Value) : Fr p own w (w.setCell ⟨p, o, none⟩ v) := ⟨rfl, rfl, rfl, by simp [World.setCell], fun k _ hp _ => set_other w p o v k hp⟩
/-- the first token is eaten -/
theorem Eats.one {p : Nat} {w : World} {x : Po.Tok} {r : List Po.Tok} {vo : Value} {b off c n c' : Nat} {A' : Option Addr} (_hp : p < w.heap.size) (hc : w.heap[p]? = some (.cells #[.slice (some ⟨b, off, none⟩) (r.length + 1) c, vo] 94 (0, 0))) (ht : RToks w p (.slice (some ⟨b, off, none⟩) (r.length + 1) c) (x :: r))
    (hA : 0 < r.length → A' = some ⟨b, off + 4, none⟩) (hn : n = r.length) (hc' : c' = c - 1) : Eats p w r (w.setCell ⟨p, 0, none⟩ (.slice A' n c')) := by
  subst hc'
  exact ⟨.set _ _ _, _, _, _, hc, set_first hc, rtoks_frame (ht.tail A' hA hn) (fun k hk => set_other _ _ _ _ _ (by omega))⟩
set_option maxRecDepth 1000000 in
theorem pa_accept {p : Nat} {l : List Po.Tok} {o : List Po.Nd} {own : Option Nat} (k : Nat) (t : ByteArray) (w : World) (h : PsAt p w l o own) :
    Calls Tryz.prog 92 #[.pointer (some ⟨p, 0, none⟩), .int .i64 k, .string t] w fun e w' => e = .returned (.bool (Po.isT l k t.data.toList)) ∧ Eats p w (if Po.isT l k t.data.toList then l.tail else l) w' := by
  have H := Lib.hid h
  cases hi : Po.isT l k t.data.toList with
  | false =>
    have HI := Lib.hid hi
    go_enter Tryz.func92, Tryz.ntmps92
    go_wp2_with (go_at_call 113; refine (pa_is k t _ H.out).mono ?_; rintro e w' ⟨rfl, hw⟩; subst hw; rw [HI.out])
    go_ret
    exact ⟨rfl, Eats.refl H.out⟩
  | true =>
    have HI := Lib.hid hi
    obtain ⟨x, r, rfl⟩ := isT_cons hi
    obtain ⟨vl, vo, ofs, hc, ht, hn, ho⟩ := h
    obtain ⟨A, c, rfl, -, -⟩ := ht.form
    obtain ⟨b, off, rfl, hbp, -, hlc, hcm, a, a0, a1, a2, a3⟩ := ht.head
    obtain ⟨c0, c1, cz⟩ := two_cells hc
    have hl : (x :: r).length = r.length + 1 := rfl
    rw [hl] at c0 hlc ht
    have HT := Lib.hid (And.intro ht (And.intro hc hbp))
    have q1 : ¬ (c : Int) < 1 := by omega
    clear hi hn ho hl a0 a1 a2 a3 ht hc
    go_enter Tryz.func92, Tryz.ntmps92
    go_wp2_with (go_at_call 113; refine (pa_is k t _ H.out).mono ?_; rintro e w' ⟨rfl, hw⟩; subst hw; rw [HI.out])
    all_goals go_ret
    all_goals (refine ⟨rfl, Eats.one H.out.lt HT.out.2.1 HT.out.1 ?_ rfl ?_⟩)
    all_goals (first | (intro _; rfl) | rfl | (intro h; omega) | omega)
/-- the value with which the parser gives up -/
def failV : Value := .iface 91 (.agg #[])
def TokIs (e : Ending) (x : Po.Tok) : Prop := ∃ a : Int, e = .returned (.agg #[.int .i64 x.k, .string ⟨x.t.toArray⟩, .int .i64 x.n, .int .i64 a])
def Fails (e : Ending) : Prop := e = .panicked [{ v := failV, recovered := false }]
set_option maxRecDepth 1000000 in
theorem pa_must {p : Nat} {l : List Po.Tok} {o : List Po.Nd} {own : Option Nat} (k : Nat) (t : ByteArray) (w : World) (h : PsAt p w l o own) :
    Calls Tryz.prog 94 #[.pointer (some ⟨p, 0, none⟩), .int .i64 k, .string t] w fun e w' => match Po.must k t.data.toList l with
      | some x => TokIs e x.1 ∧ Eats p w x.2 w'
      | none => Fails e ∧ Fr p none w w' := by
  have H := Lib.hid h
  cases hi : Po.isT l k t.data.toList with
  | false =>
    have HM : Po.must k t.data.toList l = none := by
      cases l with
      | nil => rfl
      | cons x r => simp only [Po.isT] at hi; simp only [Po.must]; rw [if_neg (by rw [hi]; simp)]
    rw [HM]
    unfold Fails failV
    have HI := Lib.hid hi
    clear hi HM h
    go_enter Tryz.func94, Tryz.ntmps94
    go_wp2_with (go_at_call 113; refine (pa_is k t _ (H.out.keep (Below.new _))).mono ?_; rintro e w' ⟨rfl, hw⟩; subst hw; rw [HI.out])
    exact ⟨rfl, rfl, Fr.of_below (Below.new _)⟩
  | true =>
    have HI := Lib.hid hi
    obtain ⟨x, r, rfl⟩ := isT_cons hi
    have HM : Po.must k t.data.toList (x :: r) = some (x, r) := by
      simp only [Po.isT] at hi; simp only [Po.must]; rw [if_pos hi]
    rw [HM]
    obtain ⟨vl, vo, ofs, hc, ht, hn, ho⟩ := h
    obtain ⟨A, c, rfl, -, -⟩ := ht.form
    obtain ⟨b, off, rfl, hbp, -, hlc, hcm, a, a0, a1, a2, a3⟩ := ht.head
    obtain ⟨c0, c1, cz⟩ := two_cells hc
    have hl : (x :: r).length = r.length + 1 := rfl
    rw [hl] at c0 hlc ht
    have HT := Lib.hid (And.intro ht (And.intro hc hbp))
    have q1 : ¬ (c : Int) < 1 := by omega
    have hpw := H.out.lt
    have hbw : b < w.heap.size := by omega
    clear hi hn ho hl ht hc HM
    go_enter Tryz.func94, Tryz.ntmps94
    go_wp2_with (go_at_call 113; refine (pa_is k t _ (H.out.keep (Below.new _))).mono ?_; rintro e w' ⟨rfl, hw⟩; subst hw; rw [HI.out])
    all_goals (refine bodyPost_ret (v := .agg #[.int .i64 x.k, .string ⟨x.t.toArray⟩, .int .i64 x.n, .int .i64 a]) (by simp [results, Tryz.results94, go_sem, asAddr]) rfl ⟨⟨a, rfl⟩, Eats.alloc (Eats.alloc (Eats.one H.out.lt HT.out.2.1 HT.out.1 ?_ rfl ?_) _) _⟩)
    all_goals (first | (intro _; rfl) | rfl | (intro h; omega) | omega)
theorem pa_must_ok {p : Nat} {l r : List Po.Tok} {o : List Po.Nd} {own : Option Nat} {x : Po.Tok} (k : Nat) (t : ByteArray) (w : World) (h : PsAt p w l o own) (hm : Po.must k t.data.toList l = some (x, r)) :
    Calls Tryz.prog 94 #[.pointer (some ⟨p, 0, none⟩), .int .i64 k, .string t] w fun e w' => TokIs e x ∧ Eats p w r w' := by
  have := pa_must k t w h
  rw [hm] at this
  exact this
theorem pa_must_no {p : Nat} {l : List Po.Tok} {o : List Po.Nd} {own : Option Nat} (k : Nat) (t : ByteArray) (w : World) (h : PsAt p w l o own) (hm : Po.must k t.data.toList l = none) :
    Calls Tryz.prog 94 #[.pointer (some ⟨p, 0, none⟩), .int .i64 k, .string t] w fun e w' => Fails e ∧ Fr p none w w' := by
  have := pa_must k t w h
  rw [hm] at this
  exact this
theorem pa_accept_yes {p : Nat} {l : List Po.Tok} {o : List Po.Nd} {own : Option Nat} (k : Nat) (t : ByteArray) (w : World) (h : PsAt p w l o own) (hi : Po.isT l k t.data.toList = true) :
    Calls Tryz.prog 92 #[.pointer (some ⟨p, 0, none⟩), .int .i64 k, .string t] w fun e w' => e = .returned (.bool true) ∧ Eats p w l.tail w' := by
  have := pa_accept k t w h
  rw [hi, if_pos rfl] at this
  exact this
theorem pa_accept_no {p : Nat} {l : List Po.Tok} {o : List Po.Nd} {own : Option Nat} (k : Nat) (t : ByteArray) (w : World) (h : PsAt p w l o own) (hi : Po.isT l k t.data.toList = false) :
    Calls Tryz.prog 92 #[.pointer (some ⟨p, 0, none⟩), .int .i64 k, .string t] w fun e w' => e = .returned (.bool false) ∧ Eats p w l w' := by
  have := pa_accept k t w h
  rw [hi] at this
  exact this
end Go.Proofs.YtdolpmmnjndfkaaGreatDoor
