/- Chapter 29, the walk: is, accept, must of the parser. | Chapter 29, the walk: Depth; digit of the parser. -/
import Derived.Test.YtdeccekeknlnoaaGreatDoorJPoTok
import Derived.Test.YtdeccekeknlnoaaGreatDoorJPoLxB
import Derived.WalkSmall
import Derived.Deep.Cut
import Derived.Deep.LoopGhost
namespace Go.Proofs.YtdeccekeknlnoaaGreatDoor
open Go.RowKit
theorem two_cells {W : World} {B : Nat} {a b : Value} {t : TypeId} (h : W.heap[B]? = some (.cells #[a, b] t (0, 0))) :
    W.cell? ⟨B, 0, none⟩ = some a ∧ W.cell? ⟨B, 1, none⟩ = some b ∧ ∀ o, W.frozen? ⟨B, o, none⟩ = false := by
  refine ⟨?_, ?_, fun o => ?_⟩ <;> simp [World.cell?, World.frozen?, h]
theorem RToks.head {w : World} {B : Nat} {A : Option Addr} {n c : Nat} {x : Po.Tok} {r : List Po.Tok} (h : RToks w B (.slice A n c) (x :: r)) :
    ∃ b o, A = some ⟨b, o, none⟩ ∧ b < B ∧ n = r.length + 1 ∧ n ≤ c ∧ c ≤ maxLen ∧ ∃ a : Int, w.cell? ⟨b, o, none⟩ = some (.int .i64 x.k) ∧ w.cell? ⟨b, o + 1, none⟩ = some (.string ⟨x.t.toArray⟩) ∧ w.cell? ⟨b, o + 2, none⟩ = some (.int .i64 x.n) ∧ w.cell? ⟨b, o + 3, none⟩ = some (.int .i64 a) := by
  obtain ⟨A', c', h1, h2, h3, h4⟩ := h
  cases h1
  obtain ⟨b, o, hA, hlt, hc⟩ := h4 (by simp)
  obtain ⟨a, a0, a1, a2, a3⟩ := hc 0 x rfl
  simp only [Nat.zero_mul, Nat.add_zero] at a0 a1 a2 a3
  exact ⟨b, o, hA, hlt, by simp, h2, h3, a, a0, a1, a2, a3⟩
theorem RToks.nil {w : World} {B : Nat} {A : Option Addr} {n c : Nat} (h : RToks w B (.slice A n c) []) : n = 0 := by
  obtain ⟨A', c', h1, h2, h3, h4⟩ := h
  cases h1
  rfl
theorem RToks.form {w : World} {B : Nat} {v : Value} {l : List Po.Tok} (h : RToks w B v l) : ∃ A c, v = .slice A l.length c ∧ l.length ≤ c ∧ c ≤ maxLen := by
  obtain ⟨A, c, h1, h2, h3, _⟩ := h
  exact ⟨A, c, h1, h2, h3⟩
set_option maxRecDepth 1000000 in
theorem pa_is {p : Nat} {l : List Po.Tok} {o : List Po.Nd} {own : Option Nat} (k : Nat) (t : ByteArray) (w : World) (h : PsAt p w l o own) :
    Calls Tryz.prog 216 #[.pointer (some ⟨p, 0, none⟩), .int .i64 k, .string t] w fun e w' => e = .returned (.bool (Po.isT l k t.data.toList)) ∧ w' = w := by
  obtain ⟨vl, vo, ofs, hc, ht, -, -⟩ := h
  obtain ⟨A, c, rfl, -, -⟩ := ht.form
  obtain ⟨c0, c1, -⟩ := two_cells hc
  cases l with
  | nil =>
    clear ht hc
    go_enter Tryz.func216, Tryz.ntmps216
    go_wp2_with fail
    go_ret
    exact ⟨rfl, rfl⟩
  | cons x r =>
    obtain ⟨b, off, rfl, -, -, -, -, a, a0, a1, a2, a3⟩ := ht.head
    obtain ⟨n, hn⟩ : ∃ n, (x :: r).length = n := ⟨_, rfl⟩
    have hn1 : (0 : Int) < n := by simp at hn; omega
    have hn2 : 0 ≤ (0 : Int) ∧ (0 : Int) < n := by omega
    rw [hn] at c0
    have HX := Lib.hid (show Po.isT (x :: r) k t.data.toList = (x.k == k && (t.data.toList == [] || x.t == t.data.toList)) from rfl)
    clear ht hc hn a2 a3
    go_enter Tryz.func216, Tryz.ntmps216
    go_wp2_with fail
    · have e : x.k = k := by omega
      go_ret
      refine ⟨ret_bool ?_, rfl⟩
      rw [HX.out, ← Lib.toList_data]
      simp_all
    · have e : x.k = k := by omega
      go_ret
      refine ⟨ret_bool ?_, rfl⟩
      rw [HX.out, ← Lib.toList_data, e]
      cases t.toList <;> simp
    · have e : ¬ x.k = k := by omega
      go_ret
      refine ⟨ret_bool ?_, rfl⟩
      rw [HX.out]
      simp [e]
/-- what a method call that only eats tokens leaves: the parser's first field alone has turned -/
structure Eats (p : Nat) (w : World) (l : List Po.Tok) (w' : World) : Prop where
  fr : Fr p none w w'
  st : ∃ vl vl' vo, w.heap[p]? = some (.cells #[vl, vo] 212 (0, 0)) ∧ w'.heap[p]? = some (.cells #[vl', vo] 212 (0, 0)) ∧ RToks w' p vl' l
theorem Eats.at_ {p : Nat} {w w' : World} {l0 l : List Po.Tok} {o : List Po.Nd} {own : Option Nat} (h : Eats p w l w') (h0 : PsAt p w l0 o own) : PsAt p w' l o own := by
  obtain ⟨vl, vl', vo, h1, h2, h3⟩ := h.st
  exact h0.toks h1 h.fr h2 h3
theorem Eats.lt {p : Nat} {w w' : World} {l : List Po.Tok} (h : Eats p w l w') : p < w.heap.size := by
  obtain ⟨vl, vl', vo, h1, h2, h3⟩ := h.st
  exact lt_of_block h1
theorem Eats.refl {p : Nat} {w : World} {l : List Po.Tok} {o : List Po.Nd} {own : Option Nat} (h : PsAt p w l o own) : Eats p w l w := by
  obtain ⟨vl, vo, ofs, h1, h2, h3, h4⟩ := h
  exact ⟨.refl _ _ _, vl, vl, vo, h1, h1, h2⟩
theorem Eats.trans {p : Nat} {w w1 w2 : World} {l l2 : List Po.Tok} (h : Eats p w l w1) (h2 : Eats p w1 l2 w2) : Eats p w l2 w2 := by
  obtain ⟨vl, vl', vo, a1, a2, a3⟩ := h.st
  obtain ⟨ul, ul', uo, b1, b2, b3⟩ := h2.st
  rw [a2] at b1
  simp only [Option.some.injEq, Obj.cells.injEq, Array.mk.injEq, List.cons.injEq, and_true] at b1
  obtain ⟨rfl, rfl⟩ := b1
  exact ⟨h.fr.trans h2.fr (.refl _ _), vl, ul', vo, a1, b2, b3⟩
theorem Eats.later {p : Nat} {w w1 w2 : World} {l : List Po.Tok} (h : Eats p w l w1) (hb : ∀ k, k < w.heap.size → w2.heap[k]? = w1.heap[k]?) (hs : w1.heap.size ≤ w2.heap.size) (ho : w2.os = w1.os ∧ w2.tape = w1.tape ∧ w2.output = w1.output) : Eats p w l w2 := by
  have hp := h.lt
  obtain ⟨vl, vl', vo, a1, a2, a3⟩ := h.st
  exact ⟨⟨ho.1.trans h.fr.os, ho.2.1.trans h.fr.tape, ho.2.2.trans h.fr.output, Nat.le_trans h.fr.size hs, fun k hk hp hn => (hb k hk).trans (h.fr.block k hk hp hn)⟩, vl, vl', vo, a1, (hb p hp).trans a2, rtoks_frame a3 (fun k hk => hb k (by omega))⟩
theorem Eats.below {p : Nat} {w w1 w2 : World} {l : List Po.Tok} (h : Eats p w l w1) (hb : Below w.heap.size w1 w2) : Eats p w l w2 := h.later hb.block hb.size ⟨hb.os, hb.tape, hb.output⟩
theorem Eats.alloc {p : Nat} {w w1 : World} {l : List Po.Tok} (h : Eats p w l w1) (ob : Obj) : Eats p w l (w1.alloc ob) := h.below ((Below.new ob).mono h.fr.size)
theorem Eats.before {p : Nat} {w w1 w2 : World} {l : List Po.Tok} (h : Eats p w1 l w2) (hb : Below w.heap.size w w1) (hp : p < w.heap.size) : Eats p w l w2 := by
  obtain ⟨vl, vl', vo, a1, a2, a3⟩ := h.st
  exact ⟨(Fr.of_below hb).trans h.fr (.refl _ _), vl, vl', vo, (hb.block p hp).symm.trans a1, a2, a3⟩
theorem isT_cons {l : List Po.Tok} {k : Nat} {t : List UInt8} (h : Po.isT l k t = true) : ∃ x r, l = x :: r := by
  cases l with
  | nil => simp [Po.isT] at h
  | cons x r => exact ⟨x, r, rfl⟩
theorem RToks.tail {w : World} {B b o n c : Nat} {x : Po.Tok} {r : List Po.Tok} (h : RToks w B (.slice (some ⟨b, o, none⟩) (r.length + 1) c) (x :: r)) (A' : Option Addr) (hA : 0 < r.length → A' = some ⟨b, o + 4, none⟩) (hn : n = r.length) : RToks w B (.slice A' n (c - 1)) r := by
  subst hn
  obtain ⟨A0, c0, h1, h2, h3, h4⟩ := h
  cases h1
  obtain ⟨b', o', hA', hlt, hc⟩ := h4 (by simp)
  simp only [Option.some.injEq, Addr.mk.injEq, and_true] at hA'
  obtain ⟨rfl, rfl⟩ := hA'
  simp only [List.length_cons] at h2
  refine ⟨A', c - 1, rfl, by omega, by omega, fun hn => ⟨b, o + 4, hA hn, hlt, fun i y hy => ?_⟩⟩
  have := hc (i + 1) y (by simpa using hy)
  rw [show o + (i + 1) * 4 = o + 4 + i * 4 by omega] at this
  exact this
theorem set_first {w : World} {p : Nat} {a b v : Value} {t : TypeId} (h : w.heap[p]? = some (.cells #[a, b] t (0, 0))) : (w.setCell ⟨p, 0, none⟩ v).heap[p]? = some (.cells #[v, b] t (0, 0)) := by
  simp only [World.setCell, Array.getElem?_modify, h]
  simp
theorem set_second {w : World} {p : Nat} {a b v : Value} {t : TypeId} (h : w.heap[p]? = some (.cells #[a, b] t (0, 0))) : (w.setCell ⟨p, 1, none⟩ v).heap[p]? = some (.cells #[a, v] t (0, 0)) := by
  simp only [World.setCell, Array.getElem?_modify, h]
  simp
theorem set_other (w : World) (p o : Nat) (v : Value) (k : Nat) (h : k ≠ p) : (w.setCell ⟨p, o, none⟩ v).heap[k]? = w.heap[k]? := by
  simp only [World.setCell, Array.getElem?_modify]
  rw [if_neg (by omega)]
theorem Fr.set {p : Nat} {own : Option Nat} (w : World) (o : Nat) (v : Value) : Fr p own w (w.setCell ⟨p, o, none⟩ v) := ⟨rfl, rfl, rfl, by simp [World.setCell], fun k _ hp _ => set_other w p o v k hp⟩
/-- the first token is eaten -/
theorem Eats.one {p : Nat} {w : World} {x : Po.Tok} {r : List Po.Tok} {vo : Value} {b off c n c' : Nat} {A' : Option Addr} (_hp : p < w.heap.size) (hc : w.heap[p]? = some (.cells #[.slice (some ⟨b, off, none⟩) (r.length + 1) c, vo] 212 (0, 0))) (ht : RToks w p (.slice (some ⟨b, off, none⟩) (r.length + 1) c) (x :: r))
    (hA : 0 < r.length → A' = some ⟨b, off + 4, none⟩) (hn : n = r.length) (hc' : c' = c - 1) : Eats p w r (w.setCell ⟨p, 0, none⟩ (.slice A' n c')) := by
  subst hc'
  exact ⟨.set _ _ _, _, _, _, hc, set_first hc, rtoks_frame (ht.tail A' hA hn) (fun k hk => set_other _ _ _ _ _ (by omega))⟩
set_option maxRecDepth 1000000 in
theorem pa_accept {p : Nat} {l : List Po.Tok} {o : List Po.Nd} {own : Option Nat} (k : Nat) (t : ByteArray) (w : World) (h : PsAt p w l o own) :
    Calls Tryz.prog 183 #[.pointer (some ⟨p, 0, none⟩), .int .i64 k, .string t] w fun e w' => e = .returned (.bool (Po.isT l k t.data.toList)) ∧ Eats p w (if Po.isT l k t.data.toList then l.tail else l) w' := by
  have H := Lib.hid h
  cases hi : Po.isT l k t.data.toList with
  | false =>
    have HI := Lib.hid hi
    go_enter Tryz.func183, Tryz.ntmps183
    go_wp2_with (go_at_call 216; refine (pa_is k t _ H.out).mono ?_; rintro e w' ⟨rfl, hw⟩; subst hw; rw [HI.out])
    go_ret
    exact ⟨rfl, Eats.refl H.out⟩
  | true =>
    have HI := Lib.hid hi
    obtain ⟨x, r, rfl⟩ := isT_cons hi
    obtain ⟨vl, vo, ofs, hc, ht, hn, ho⟩ := h
    obtain ⟨A, c, rfl, -, -⟩ := ht.form
    obtain ⟨b, off, rfl, hbp, -, hlc, hcm, a, a0, a1, a2, a3⟩ := ht.head
    obtain ⟨c0, c1, cz⟩ := two_cells hc
    have hl : (x :: r).length = r.length + 1 := rfl
    rw [hl] at c0 hlc ht
    have HT := Lib.hid (And.intro ht (And.intro hc hbp))
    have q1 : ¬ (c : Int) < 1 := by omega
    clear hi hn ho hl a0 a1 a2 a3 ht hc
    go_enter Tryz.func183, Tryz.ntmps183
    go_wp2_with (go_at_call 216; refine (pa_is k t _ H.out).mono ?_; rintro e w' ⟨rfl, hw⟩; subst hw; rw [HI.out])
    all_goals go_ret
    all_goals (refine ⟨rfl, Eats.one H.out.lt HT.out.2.1 HT.out.1 ?_ rfl ?_⟩)
    all_goals (first | (intro _; rfl) | rfl | (intro h; omega) | omega)
/-- the value with which the parser gives up -/
def failV : Value := .iface 209 (.agg #[])
def TokIs (e : Ending) (x : Po.Tok) : Prop := ∃ a : Int, e = .returned (.agg #[.int .i64 x.k, .string ⟨x.t.toArray⟩, .int .i64 x.n, .int .i64 a])
def Fails (e : Ending) : Prop := e = .panicked [{ v := failV, recovered := false }]
set_option maxRecDepth 1000000 in
theorem pa_must {p : Nat} {l : List Po.Tok} {o : List Po.Nd} {own : Option Nat} (k : Nat) (t : ByteArray) (w : World) (h : PsAt p w l o own) :
    Calls Tryz.prog 185 #[.pointer (some ⟨p, 0, none⟩), .int .i64 k, .string t] w fun e w' => match Po.must k t.data.toList l with
      | some x => TokIs e x.1 ∧ Eats p w x.2 w'
      | none => Fails e ∧ Fr p none w w' := by
  have H := Lib.hid h
  cases hi : Po.isT l k t.data.toList with
  | false =>
    have HM : Po.must k t.data.toList l = none := by
      cases l with
      | nil => rfl
      | cons x r => simp only [Po.isT] at hi; simp only [Po.must]; rw [if_neg (by rw [hi]; simp)]
    rw [HM]
    unfold Fails failV
    have HI := Lib.hid hi
    clear hi HM h
    go_enter Tryz.func185, Tryz.ntmps185
    go_wp2_with (go_at_call 216; refine (pa_is k t _ (H.out.keep (Below.new _))).mono ?_; rintro e w' ⟨rfl, hw⟩; subst hw; rw [HI.out])
    exact ⟨rfl, rfl, Fr.of_below (Below.new _)⟩
  | true =>
    have HI := Lib.hid hi
    obtain ⟨x, r, rfl⟩ := isT_cons hi
    have HM : Po.must k t.data.toList (x :: r) = some (x, r) := by
      simp only [Po.isT] at hi; simp only [Po.must]; rw [if_pos hi]
    rw [HM]
    obtain ⟨vl, vo, ofs, hc, ht, hn, ho⟩ := h
    obtain ⟨A, c, rfl, -, -⟩ := ht.form
    obtain ⟨b, off, rfl, hbp, -, hlc, hcm, a, a0, a1, a2, a3⟩ := ht.head
    obtain ⟨c0, c1, cz⟩ := two_cells hc
    have hl : (x :: r).length = r.length + 1 := rfl
    rw [hl] at c0 hlc ht
    have HT := Lib.hid (And.intro ht (And.intro hc hbp))
    have q1 : ¬ (c : Int) < 1 := by omega
    have hpw := H.out.lt
    have hbw : b < w.heap.size := by omega
    clear hi hn ho hl ht hc HM
    go_enter Tryz.func185, Tryz.ntmps185
    go_wp2_with (go_at_call 216; refine (pa_is k t _ (H.out.keep (Below.new _))).mono ?_; rintro e w' ⟨rfl, hw⟩; subst hw; rw [HI.out])
    all_goals (refine bodyPost_ret (v := .agg #[.int .i64 x.k, .string ⟨x.t.toArray⟩, .int .i64 x.n, .int .i64 a]) (by simp [results, Tryz.results185, go_sem, asAddr]) rfl ⟨⟨a, rfl⟩, Eats.alloc (Eats.alloc (Eats.one H.out.lt HT.out.2.1 HT.out.1 ?_ rfl ?_) _) _⟩)
    all_goals (first | (intro _; rfl) | rfl | (intro h; omega) | omega)
theorem pa_must_ok {p : Nat} {l r : List Po.Tok} {o : List Po.Nd} {own : Option Nat} {x : Po.Tok} (k : Nat) (t : ByteArray) (w : World) (h : PsAt p w l o own) (hm : Po.must k t.data.toList l = some (x, r)) :
    Calls Tryz.prog 185 #[.pointer (some ⟨p, 0, none⟩), .int .i64 k, .string t] w fun e w' => TokIs e x ∧ Eats p w r w' := by
  have := pa_must k t w h
  rw [hm] at this
  exact this
theorem pa_must_no {p : Nat} {l : List Po.Tok} {o : List Po.Nd} {own : Option Nat} (k : Nat) (t : ByteArray) (w : World) (h : PsAt p w l o own) (hm : Po.must k t.data.toList l = none) :
    Calls Tryz.prog 185 #[.pointer (some ⟨p, 0, none⟩), .int .i64 k, .string t] w fun e w' => Fails e ∧ Fr p none w w' := by
  have := pa_must k t w h
  rw [hm] at this
  exact this
theorem pa_accept_yes {p : Nat} {l : List Po.Tok} {o : List Po.Nd} {own : Option Nat} (k : Nat) (t : ByteArray) (w : World) (h : PsAt p w l o own) (hi : Po.isT l k t.data.toList = true) :
    Calls Tryz.prog 183 #[.pointer (some ⟨p, 0, none⟩), .int .i64 k, .string t] w fun e w' => e = .returned (.bool true) ∧ Eats p w l.tail w' := by
  have := pa_accept k t w h
  rw [hi, if_pos rfl] at this
  exact this
theorem pa_accept_no {p : Nat} {l : List Po.Tok} {o : List Po.Nd} {own : Option Nat} (k : Nat) (t : ByteArray) (w : World) (h : PsAt p w l o own) (hi : Po.isT l k t.data.toList = false) :
    Calls Tryz.prog 183 #[.pointer (some ⟨p, 0, none⟩), .int .i64 k, .string t] w fun e w' => e = .returned (.bool false) ∧ Eats p w l w' := by
  have := pa_accept k t w h
  rw [hi] at this
  exact this
end Go.Proofs.YtdeccekeknlnoaaGreatDoor

namespace Go.Proofs.YtdeccekeknlnoaaGreatDoor
open Go.RowKit
theorem pa_digit (b : UInt8) (w : World) :
    Calls Tryz.prog 252 #[.int .u8 (b.toNat : Int)] w fun e w' => (match Po.hexd b with
      | some n => e = .returned (.int .u8 n)
      | none => Fails e) ∧ w' = w := by
  have hb := b.toNat_lt
  have HD := Lib.hid (show Po.hexd b = if 48 ≤ b.toNat ∧ b.toNat ≤ 57 then some (b.toNat - 48) else if 97 ≤ b.toNat ∧ b.toNat ≤ 102 then some (b.toNat - 87) else none by
    simp only [Po.hexd, Po.le_iff, UInt8.toNat_ofNat, Nat.reducePow, Nat.reduceMod, Bool.and_eq_true, decide_eq_true_eq])
  obtain ⟨n, hn⟩ : ∃ n, b.toNat = n := ⟨_, rfl⟩
  rw [hn] at HD hb ⊢
  clear hn
  unfold Fails failV
  have panics : ∀ _ : ¬ (48 ≤ n ∧ n ≤ 57), ∀ _ : ¬ (97 ≤ n ∧ n ≤ 102), Po.hexd b = none := fun a c => HD.out.trans ((if_neg a).trans (if_neg c))
  have HP := Lib.hid panics
  clear panics
  by_cases hA : 48 ≤ n ∧ n ≤ 57
  · have H := Lib.hid (HD.out.trans (if_pos hA))
    rw [H.out]
    have e1 : (48 : Int) ≤ n := by omega
    have e2 : (n : Int) ≤ 57 := by omega
    have H2 := Lib.hid hA
    clear HD HP hA hb H
    go_enter Tryz.func252, Tryz.ntmps252
    go_wp2_with fail
    go_ret
    refine ⟨ret_int ?_, rfl⟩
    have := H2.out
    first | omega | (unfold IntKind.wrap; simp [IntKind.bits, IntKind.signed]; omega)
  by_cases hB : 97 ≤ n ∧ n ≤ 102
  · have H := Lib.hid (HD.out.trans ((if_neg hA).trans (if_pos hB)))
    rw [H.out]
    have e1 : (48 : Int) ≤ n := by omega
    have e2 : ¬ (n : Int) ≤ 57 := by omega
    have e3 : (97 : Int) ≤ n := by omega
    have e4 : (n : Int) ≤ 102 := by omega
    have H2 := Lib.hid hB
    clear HD HP hA hB hb H
    go_enter Tryz.func252, Tryz.ntmps252
    go_wp2_with fail
    go_ret
    refine ⟨ret_int ?_, rfl⟩
    have := H2.out
    first | omega | (unfold IntKind.wrap; simp [IntKind.bits, IntKind.signed]; omega)
  have H := Lib.hid (HP.out hA hB)
  rw [H.out]
  clear HD HP H
  by_cases h1 : n < 48
  · have e1 : ¬ (48 : Int) ≤ n := by omega
    have e3 : ¬ (97 : Int) ≤ n := by omega
    clear hA hB hb h1
    go_enter Tryz.func252, Tryz.ntmps252
    go_wp2_with fail
    exact ⟨rfl, rfl, rfl⟩
  by_cases h2 : n < 97
  · have e1 : (48 : Int) ≤ n := by omega
    have e2 : ¬ (n : Int) ≤ 57 := by omega
    have e3 : ¬ (97 : Int) ≤ n := by omega
    clear hA hB hb h1 h2
    go_enter Tryz.func252, Tryz.ntmps252
    go_wp2_with fail
    exact ⟨rfl, rfl, rfl⟩
  · have e1 : (48 : Int) ≤ n := by omega
    have e2 : ¬ (n : Int) ≤ 57 := by omega
    have e3 : (97 : Int) ≤ n := by omega
    have e4 : ¬ (n : Int) ≤ 102 := by omega
    clear hA hB hb h1 h2
    go_enter Tryz.func252, Tryz.ntmps252
    go_wp2_with fail
    exact ⟨rfl, rfl, rfl⟩

theorem Po_depth_step (x : Po.Tok) (l : List Po.Tok) (n most : Int) : Po.depthF (x :: l) n most = Po.depthF l (if x.k = 3 then (if x.t = [40] then n + 1 else if x.t = [41] then n - 1 else n) else n) (max most (if x.k = 3 then (if x.t = [40] then n + 1 else if x.t = [41] then n - 1 else n) else n)) := rfl
theorem RToks.at {w : World} {B : Nat} {A : Option Addr} {n c : Nat} {l : List Po.Tok} (h : RToks w B (.slice A n c) l) {i : Nat} {x : Po.Tok} (hx : l[i]? = some x) :
    ∃ b o, A = some ⟨b, o, none⟩ ∧ b < B ∧ ∃ a : Int, w.cell? ⟨b, o + i * 4, none⟩ = some (.int .i64 x.k) ∧ w.cell? ⟨b, o + i * 4 + 1, none⟩ = some (.string ⟨x.t.toArray⟩) ∧ w.cell? ⟨b, o + i * 4 + 2, none⟩ = some (.int .i64 x.n) ∧ w.cell? ⟨b, o + i * 4 + 3, none⟩ = some (.int .i64 a) := by
  obtain ⟨A', c', h1, h2, h3, h4⟩ := h
  cases h1
  have hl : i < l.length := by
    rcases Nat.lt_or_ge i l.length with h | h
    · exact h
    · rw [List.getElem?_eq_none h] at hx; cases hx
  obtain ⟨b, o, hA, hlt, hc⟩ := h4 (by omega)
  obtain ⟨a, h⟩ := hc i x hx
  exact ⟨b, o, hA, hlt, a, h⟩
set_option maxRecDepth 1000000 in
theorem pa_depth (v : Value) (l : List Po.Tok) (w : World) (h : RToks w w.heap.size v l) (hl : l.length ≤ 100000) :
    Calls Tryz.prog 68 #[v] w fun e w' => e = .returned (.int .i64 (Po.depth l)) ∧ Below w.heap.size w w' := by
  obtain ⟨A, c, rfl, -, -⟩ := h.form
  have H := Lib.hid h
  obtain ⟨n, hn⟩ : ∃ n, l.length = n := ⟨_, rfl⟩
  have HN := Lib.hid hn
  rw [hn] at hl
  have HL := Lib.hid hl
  have hl2 : (n : Int) ≤ 100000 := by omega
  clear h hl hl2
  rw [HN.out]
  go_enter Tryz.func68, Tryz.ntmps68
  go_wp2_with fail
  go_loopg [3, 4, 9] n (fun g s3 s4 s9 wr => ∃ (i : Nat) (d m : Int), i + g = n ∧ s3 = .int .i64 d ∧ s4 = .int .i64 m ∧ s9 = .int .i64 i ∧ Aside (Po.depthF (l.drop i) d m = Po.depth l ∧ -(i : Int) ≤ d ∧ d ≤ i ∧ 0 ≤ m ∧ m ≤ i) ∧ Below w.heap.size w wr)
  case atStart => exact ⟨0, 0, 0, by omega, rfl, rfl, rfl, ⟨rfl, by omega, by omega, by omega, by omega⟩, Below.refl _ _⟩
  case round =>
    obtain ⟨i, d, m, hig, rfl, rfl, rfl, HA, hb⟩ := hrel
    cases gk with
    | zero =>
      have hi : ¬ (i : Int) < n := by omega
      have HX := Lib.hid (show m = Po.depth l by
        have h := HA.out.1
        rw [List.drop_eq_nil_of_le (by rw [HN.out]; omega)] at h
        exact h)
      go_wp2_with fail
      go_ret
      exact ⟨ret_int HX.out, hb⟩
    | succ g =>
      have hi : (i : Int) < n := by omega
      have hi2 : 0 ≤ (i : Int) ∧ (i : Int) < n := by omega
      obtain ⟨x, hx⟩ : ∃ x, l[i]? = some x := ⟨_, List.getElem?_eq_getElem (by rw [HN.out]; omega)⟩
      have hd : l.drop i = x :: l.drop (i + 1) := by
        have hlt : i < l.length := by rw [HN.out]; omega
        rw [List.drop_eq_getElem_cons hlt]
        rw [List.getElem?_eq_getElem hlt] at hx
        simp at hx
        rw [hx]
      have HX := Lib.hid (show Po.depthF (l.drop (i + 1)) (if x.k = 3 then (if x.t = [40] then d + 1 else if x.t = [41] then d - 1 else d) else d) (max m (if x.k = 3 then (if x.t = [40] then d + 1 else if x.t = [41] then d - 1 else d) else d)) = Po.depth l by
        rw [← HA.out.1, hd, Po_depth_step])
      have hcells := H.out.at hx
      rw [HN.out] at *
      obtain ⟨b, o, rfl, hbl, a, a0, a1, a2, a3⟩ := hcells
      have q0 : wr.cell? ⟨b, o + i * 4, none⟩ = some (.int .i64 x.k) := (hb.cell (p := ⟨b, _, none⟩) hbl).trans a0
      have q1 : wr.cell? ⟨b, o + i * 4 + 1, none⟩ = some (.string ⟨x.t.toArray⟩) := (hb.cell (p := ⟨b, _, none⟩) hbl).trans a1
      have q2 : wr.cell? ⟨b, o + i * 4 + 2, none⟩ = some (.int .i64 x.n) := (hb.cell (p := ⟨b, _, none⟩) hbl).trans a2
      have q3 : wr.cell? ⟨b, o + i * 4 + 3, none⟩ = some (.int .i64 a) := (hb.cell (p := ⟨b, _, none⟩) hbl).trans a3
      have w1 : wrap64 (d + 1) = d + 1 := by have := HA.out; have := HL.out; unfold wrap64; omega
      have w2 : wrap64 (d - 1) = d - 1 := by have := HA.out; have := HL.out; unfold wrap64; omega
      have w3 : wrap64 ((i : Int) + 1) = (i : Int) + 1 := by have := HL.out; unfold wrap64; omega
      clear hx hd a0 a1 a2 a3
      go_wp2_with fail
      · rename_i k1
        go_roundg g
        case measure => omega
        case rel =>
          refine ⟨i + 1, d, max m (d), by omega, rfl, rfl, by first | rfl | simp, ⟨?_, ?_, ?_, ?_, ?_⟩, hb.alloc hb.size _⟩
          · rw [← HX.out, if_neg (by simp at k1; omega)]
          all_goals (have := HA.out; omega)
      · rename_i k1 k2
        go_roundg g
        case measure => omega
        case rel =>
          refine ⟨i + 1, d + 1, max m (d + 1), by omega, rfl, rfl, by first | rfl | simp, ⟨?_, ?_, ?_, ?_, ?_⟩, hb.alloc hb.size _⟩
          · rw [← HX.out, if_pos (by simp at k1; omega), if_pos (by simpa using k2)]
          all_goals (have := HA.out; omega)
      · rename_i k1 k2 k3
        go_roundg g
        case measure => omega
        case rel =>
          refine ⟨i + 1, d - 1, max m (d - 1), by omega, rfl, rfl, by first | rfl | simp, ⟨?_, ?_, ?_, ?_, ?_⟩, hb.alloc hb.size _⟩
          · rw [← HX.out, if_pos (by simp at k1; omega), if_neg (by simpa using k2), if_pos (by simpa using k3)]
          all_goals (have := HA.out; omega)
      · rename_i k1 k2 k3
        go_roundg g
        case measure => omega
        case rel =>
          refine ⟨i + 1, d, max m (d), by omega, rfl, rfl, by first | rfl | simp, ⟨?_, ?_, ?_, ?_, ?_⟩, hb.alloc hb.size _⟩
          · rw [← HX.out, if_pos (by simp at k1; omega), if_neg (by simpa using k2), if_neg (by simpa using k3)]
          all_goals (have := HA.out; omega)
end Go.Proofs.YtdeccekeknlnoaaGreatDoor
