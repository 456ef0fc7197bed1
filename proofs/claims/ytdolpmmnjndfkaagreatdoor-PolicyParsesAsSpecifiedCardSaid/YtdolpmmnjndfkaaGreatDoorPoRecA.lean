/- Chapter 29, the walk: an operand of the parser: the contracts of the recursion, and 'not' one call deeper. -/
import Derived.Test.YtdolpmmnjndfkaaGreatDoorPoAdd
import Derived.Test.YtdolpmmnjndfkaaGreatDoorPoNodes
namespace Go.Proofs.YtdolpmmnjndfkaaGreatDoor
open Go.RowKit
structure Pin (p : Nat) (w : World) (l : List Po.Tok) (o : List Po.Nd) (own : Option Nat) : Prop where
  at_ : PsAt p w l o own
  toks : Po.OkToks l
  nds : Po.OkAll o
  few : o.length + l.length ≤ 100000
def PSays (p : Nat) (w : World) (own : Option Nat) (r : Option (List Po.Tok × List Po.Nd)) (e : Ending) (w' : World) : Prop := match r with
  | some x => e = .returned (.int .i64 ((x.2.length - 1 : Nat) : Int)) ∧ ∃ own', Pin p w' x.1 x.2 own' ∧ NewOwn w own own' ∧ Fr p own w w'
  | none => Fails e ∧ Fr p own w w'
theorem PSays.after {p : Nat} {w w1 w' : World} {own own1 : Option Nat} {r : Option (List Po.Tok × List Po.Nd)} {e : Ending} (hF : Fr p own w w1) (hN : NewOwn w own own1) (h : PSays p w1 own1 r e w') : PSays p w own r e w' := by
  cases r with
  | none => exact ⟨h.1, hF.trans h.2 hN⟩
  | some x =>
    obtain ⟨h1, own', h2, h3, h4⟩ := h
    exact ⟨h1, own', h2, hN.trans h3 hF.size, hF.trans h4 hN⟩
theorem Pin.eat {p : Nat} {w w1 : World} {l l1 : List Po.Tok} {o : List Po.Nd} {own : Option Nat} (h : Pin p w l o own) (he : Eats p w l1 w1) (ht : Po.OkToks l1) (hl : l1.length ≤ l.length) : Pin p w1 l1 o own :=
  ⟨he.at_ h.at_, ht, h.nds, by have := h.few; omega⟩
theorem Pin.keep {p : Nat} {w w1 : World} {l : List Po.Tok} {o : List Po.Nd} {own : Option Nat} (h : Pin p w l o own) (hb : Below w.heap.size w w1) : Pin p w1 l o own := ⟨h.at_.keep hb, h.toks, h.nds, h.few⟩
theorem Pin.tail {p : Nat} {w w1 : World} {l : List Po.Tok} {o : List Po.Nd} {own : Option Nat} (h : Pin p w l o own) (he : Eats p w l.tail w1) : Pin p w1 l.tail o own := h.eat he h.toks.tail (by simp)
/-- a node with operands is added -/
theorem pa_add_op {p : Nat} {l : List Po.Tok} {o : List Po.Nd} {own : Option Nat} (k : Nat) (of : List Nat) (v : Value) (w : World) (h : PsAt p w l o own) (hv : OfIs w p own v of) (ho : o.length ≤ 100000) :
    Calls Tryz.prog 93 #[.pointer (some ⟨p, 0, none⟩), .agg #[.int .i64 k, .int .i64 0, .int .i64 0, .int .i64 0, .int .u8 0, .int .u8 0, .int .u8 0, .int .u8 0, .int .u8 0, .int .u8 0, .int .u8 0, .int .u8 0, .int .u8 0, .int .u8 0, .int .u8 0, .int .u8 0, .int .u8 0, .int .u8 0, .int .u8 0, .int .u8 0, v]] w (AddSays p w l o own ⟨k, 0, 0, 0, Po.zero16, of⟩) :=
  pa_add ⟨k, 0, 0, 0, Po.zero16, of⟩ v w h rfl hv ho
/-- what is added behind an operand -/
theorem PSays.added {p : Nat} {w w1 w2 : World} {l : List Po.Tok} {o : List Po.Nd} {own own1 : Option Nat} {x : Po.Nd} {e : Ending} (hF : Fr p own w w1) (hN : NewOwn w own own1) (h : AddSays p w1 l o own1 x e w2) (ht : Po.OkToks l) (ho : Po.OkAll o) (hx : Po.OkNd o.length x) (hf : o.length + 1 + l.length ≤ 100000) :
    PSays p w own (some (l, o ++ [x])) e w2 := by
  obtain ⟨h1, own', h2, h3, h4⟩ := h
  refine ⟨?_, own', ⟨h2, ht, ho.snoc hx, by simp; omega⟩, hN.trans h3 hF.size, hF.trans h4 hN⟩
  rw [h1]
  simp
theorem ofIs_one {p : Nat} {w : World} {own : Option Nat} {a : Nat} (hp : p < w.heap.size) (ho : ∀ k, own = some k → k < w.heap.size) : OfIs (w.alloc (.cells #[.int .i64 a] 3)) p own (.slice (some ⟨w.heap.size, 0, none⟩) 1 1) [a] := by
  refine .inr ⟨w.heap.size, 1, rfl, hp, by simp, fun e => ?_, by simp, by simp [maxLen], fun i x hx => ?_⟩
  · have := ho _ e.symm; omega
  · match i, hx with
    | 0, hx => simp at hx; subst hx; simp
theorem ofIs_two {p : Nat} {w : World} {own : Option Nat} {a b : Nat} (hp : p < w.heap.size) (ho : ∀ k, own = some k → k < w.heap.size) : OfIs (w.alloc (.cells #[.int .i64 a, .int .i64 b] 3)) p own (.slice (some ⟨w.heap.size, 0, none⟩) 2 2) [a, b] := by
  refine .inr ⟨w.heap.size, 2, rfl, hp, by simp, fun e => ?_, by simp, by simp [maxLen], fun i x hx => ?_⟩
  · have := ho _ e.symm; omega
  · match i, hx with
    | 0, hx => simp at hx; subst hx; simp
    | 1, hx => simp at hx; subst hx; simp
def NotC (f : Nat) : Prop := ∀ (p : Nat) (l : List Po.Tok) (o : List Po.Nd) (own : Option Nat) (w : World) (r : Option (List Po.Tok × List Po.Nd)), Po.P f 2 l o = some r → Pin p w l o own → Calls Tryz.prog 73 #[.pointer (some ⟨p, 0, none⟩)] w (PSays p w own r)
def PolC (f : Nat) : Prop := ∀ (p : Nat) (l : List Po.Tok) (o : List Po.Nd) (own : Option Nat) (w : World) (r : Option (List Po.Tok × List Po.Nd)), Po.P f 0 l o = some r → Pin p w l o own → Calls Tryz.prog 53 #[.pointer (some ⟨p, 0, none⟩)] w (PSays p w own r)
def AndC (f : Nat) : Prop := ∀ (p c : Nat) (l : List Po.Tok) (o : List Po.Nd) (own : Option Nat) (w : World) (r : Option (List Po.Tok × List Po.Nd)), Po.P f 1 l o = some r → Pin p w l o own → w.heap[c]? = some (.cells #[.pointer (some ⟨p, 0, none⟩)] 92 (0, 0)) → c ≠ p → some c ≠ own → Calls Tryz.prog 71 #[.pointer (some ⟨c, 0, none⟩)] w (PSays p w own r)
theorem isT_tail {l : List Po.Tok} {k : Nat} {t : List UInt8} (h : Po.isT l k t = true) : l.tail.length + 1 = l.length := Po.isT_len h
theorem must_ok1 {k : Nat} {t : List UInt8} {l r : List Po.Tok} {x : Po.Tok} (h : Po.must k t l = some (x, r)) (hl : Po.OkToks l) : Po.OkToks r ∧ r.length ≤ l.length := ⟨(Po.must_ok hl h).1, by have := Po.must_len h; omega⟩

set_option maxRecDepth 1000000 in
set_option maxHeartbeats 4000000 in
theorem not_step (f : Nat) (IN : NotC f) (IP : PolC f) : NotC (f + 1) := by
  intro p l o own w r hr hin
  have hp := hin.at_.lt
  have HI := Lib.hid hin
  obtain ⟨S, hS⟩ : ∃ S, PSays p w own r = S := ⟨_, rfl⟩
  rw [hS]
  have h33 : ¬ (2 = 0) := by decide
  cases hb : Po.isT l 3 [33] with
  | true =>
    have HB := Lib.hid hb
    rw [Po.P_bang hb] at hr
    clear hb h33
    cases hq : Po.P f 2 l.tail o with
    | none => rw [hq] at hr; cases hr
    | some q =>
      have HQ := Lib.hid hq
      rw [hq] at hr
      have HR1 := Lib.hid hr
      clear hq hr hin
      go_enter Tryz.func73, Tryz.ntmps73
      go_upto_region 2 with (go_at_call 92; refine (pa_accept_yes 3 ⟨#[33]⟩ _ HI.out.at_ HB.out).mono ?_; rintro e w1 ⟨rfl, he1⟩; have HE1 := Lib.hid he1; clear he1)
      go_wp2_with fail
      refine (IN p l.tail o own _ q HQ.out (HI.out.tail HE1.out)).mono ?_
      intro e w2 hn
      cases q with
      | none =>
        obtain ⟨hf, hfr⟩ := hn
        have HX := Lib.hid (show r = none from (Option.some.inj HR1.out).symm)
        unfold Fails at hf
        subst hf
        go_wp2_with fail
        rw [← hS, HX.out]
        exact ⟨rfl, rfl, HE1.out.fr.weaken.trans hfr (.refl _ _)⟩
      | some x =>
        obtain ⟨hf, own1, hin1, hnw1, hfr1⟩ := hn
        have HX := Lib.hid (show r = some (x.1, x.2 ++ [⟨8, 0, 0, 0, Po.zero16, [x.2.length - 1]⟩]) from (Option.some.inj HR1.out).symm)
        subst hf
        have HIN := Lib.hid hin1
        have HFR := Lib.hid (And.intro (hnw1.more HE1.out.fr.size) (HE1.out.fr.weaken.trans hfr1 (.refl _ _)))
        have HOK := Lib.hid (And.intro ((Po.P_ok f 2 l.tail o x.1 x.2 HI.out.toks.tail HI.out.nds HQ.out).2.2.2 (by decide) (by decide)) (Po.P_nodes f 2 l.tail o x.1 x.2 HQ.out))
        have HTL := Lib.hid (isT_tail HB.out)
        clear hin1 hnw1 hfr1
        go_wp2_with fail
        have hlt1 := HIN.out.at_.lt
        have hgt1 := HIN.out.at_.own_gt
        refine (pa_add_op 8 [x.2.length - 1] _ _ (HIN.out.keep (Below.new _)).at_ (ofIs_one hlt1 (fun k hk => (hgt1 k hk).2)) (by have := HIN.out.few; omega)).mono ?_
        intro e w3 ha
        have HA := Lib.hid ha
        have he := ha.1
        subst he
        clear ha hlt1 hgt1
        go_wp2_with fail
        try go_ret
        rw [← hS, HX.out]
        refine PSays.added (HFR.out.2.trans (.of_below (Below.new _)) (.refl _ _)) HFR.out.1 HA.out HIN.out.toks HIN.out.nds (Po.ok_not (by have := HOK.out; omega)) ?_
        have := HOK.out.2; have := HI.out.few; have := HTL.out
        omega
  | false =>
    have HB := Lib.hid hb
    cases hc : Po.isT l 3 [40] with
    | true =>
      have HC := Lib.hid hc
      rw [Po.P_paren hb hc] at hr
      clear hb hc h33
      cases hq : Po.P f 0 l.tail o with
      | none => rw [hq] at hr; cases hr
      | some q =>
        have HQ := Lib.hid hq
        rw [hq] at hr
        have HR1 := Lib.hid hr
        clear hq hr hin
        go_enter Tryz.func73, Tryz.ntmps73
        go_upto_region 4 with (go_at_call 92; refine (pa_accept_no 3 ⟨#[33]⟩ _ HI.out.at_ HB.out).mono ?_; rintro e w1 ⟨rfl, he1⟩; have HE1 := Lib.hid he1; clear he1)
        go_upto_region 5 with (go_at_call 92; refine (pa_accept_yes 3 ⟨#[40]⟩ _ (HE1.out.at_ HI.out.at_) HC.out).mono ?_; rintro e w2 ⟨rfl, he2⟩; have HE2 := Lib.hid (HE1.out.trans he2); clear he2)
        go_wp2_with fail
        refine (IP p l.tail o own _ q HQ.out (HI.out.tail HE2.out)).mono ?_
        intro e w3 hn
        cases q with
        | none =>
          obtain ⟨hf, hfr⟩ := hn
          have HX := Lib.hid (show r = none from (Option.some.inj HR1.out).symm)
          unfold Fails at hf
          subst hf
          go_wp2_with fail
          rw [← hS, HX.out]
          exact ⟨rfl, rfl, HE2.out.fr.weaken.trans hfr (.refl _ _)⟩
        | some x =>
          obtain ⟨hf, own1, hin1, hnw1, hfr1⟩ := hn
          subst hf
          have HIN := Lib.hid hin1
          have HFR := Lib.hid (And.intro (hnw1.more HE2.out.fr.size) (HE2.out.fr.weaken.trans hfr1 (.refl _ _)))
          have hR2 : r = (Po.must 3 [41] x.1).map fun y => (y.2, x.2) := (Option.some.inj HR1.out).symm
          clear hin1 hnw1 hfr1
          cases hm : Po.must 3 [41] x.1 with
          | none =>
            have HM := Lib.hid hm
            have HX := Lib.hid (show r = none by rw [hR2, hm]; rfl)
            clear hm hR2
            go_wp2_with (go_at_call 94; refine (pa_must_no 3 ⟨#[41]⟩ _ HIN.out.at_ HM.out).mono ?_; rintro e w9 ⟨hf, hfr⟩; unfold Fails at hf; subst hf)
            rw [← hS, HX.out]
            exact ⟨rfl, rfl, HFR.out.2.trans hfr.weaken HFR.out.1⟩
          | some y =>
            obtain ⟨y, r2⟩ := y
            have HM := Lib.hid hm
            have HX := Lib.hid (show r = some (r2, x.2) by rw [hR2, hm]; rfl)
            clear hm hR2
            go_wp2_with (go_at_call 94; refine (pa_must_ok 3 ⟨#[41]⟩ _ HIN.out.at_ HM.out).mono ?_; rintro e w4 ⟨⟨a4, rfl⟩, he4⟩; have HE4 := Lib.hid he4; clear he4)
            try go_ret
            rw [← hS, HX.out]
            have hm1 := must_ok1 HM.out HIN.out.toks
            exact ⟨rfl, own1, HIN.out.eat HE4.out hm1.1 hm1.2, HFR.out.1, HFR.out.2.trans HE4.out.fr.weaken HFR.out.1⟩
    | false =>
      have HC := Lib.hid hc
      rw [Po.P_atom hb hc] at hr
      have hR2 : r = (Po.atom l).map fun x => (x.2, o ++ [x.1]) := (Option.some.inj hr).symm
      clear hb hc h33 hr hin
      go_enter Tryz.func73, Tryz.ntmps73
      go_upto_region 4 with (go_at_call 92; refine (pa_accept_no 3 ⟨#[33]⟩ _ HI.out.at_ HB.out).mono ?_; rintro e w1 ⟨rfl, he1⟩; have HE1 := Lib.hid he1; clear he1)
      go_upto_region 8 with (go_at_call 92; refine (pa_accept_no 3 ⟨#[40]⟩ _ (HE1.out.at_ HI.out.at_) HC.out).mono ?_; rintro e w2 ⟨rfl, he2⟩; have HE2 := Lib.hid (HE1.out.trans he2); clear he2)
      go_wp2_with fail
      refine (pa_atom _ (HE2.out.at_ HI.out.at_)).mono ?_
      intro e w3 hn
      unfold NodeSays at hn
      cases ha : Po.atom l with
      | none =>
        rw [ha] at hn
        obtain ⟨hf, hfr⟩ := hn
        have HX := Lib.hid (show r = none by rw [hR2, ha]; rfl)
        clear ha hR2
        unfold Fails at hf
        subst hf
        go_wp2_with fail
        rw [← hS, HX.out]
        exact ⟨rfl, rfl, HE2.out.fr.weaken.trans hfr.weaken (.refl _ _)⟩
      | some x =>
        obtain ⟨x, r2⟩ := x
        rw [ha] at hn
        obtain ⟨hf, he3⟩ := hn
        have HX := Lib.hid (show r = some (r2, o ++ [x]) by rw [hR2, ha]; rfl)
        have hok := Po.atom_ok (i := o.length) HI.out.toks ha
        have hlen := Po.atom_len ha
        have HOK := Lib.hid (And.intro hok hlen)
        have HE3 := Lib.hid (HE2.out.trans he3)
        have hof := Po.atom_of ha
        clear ha hR2 he3 hok hlen
        simp only at hf
        subst hf
        go_wp2_with fail
        refine (pa_add x _ _ (HE3.out.at_ HI.out.at_) HOK.out.1.2.dg (.inl ⟨hof, rfl⟩) (by have := HI.out.few; omega)).mono ?_
        intro e w4 hd
        have HA := Lib.hid hd
        have he := hd.1
        subst he
        clear hd
        go_wp2_with fail
        try go_ret
        rw [← hS, HX.out]
        refine PSays.added HE3.out.fr.weaken (.refl _ _) HA.out HOK.out.1.1 HI.out.nds HOK.out.1.2 ?_
        have := HI.out.few; have := HOK.out.2
        omega
end Go.Proofs.YtdolpmmnjndfkaaGreatDoor
