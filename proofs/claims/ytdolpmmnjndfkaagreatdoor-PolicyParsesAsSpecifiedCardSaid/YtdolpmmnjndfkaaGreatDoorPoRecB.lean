/- Chapter 29, the walk: chain and policy of the parser; the recursion closed. -/
import Derived.Test.YtdolpmmnjndfkaaGreatDoorPoRecA
import Derived.Deep.LoopGhost
namespace Go.Proofs.YtdolpmmnjndfkaaGreatDoor
open Go.RowKit
theorem cap_keep {p c : Nat} {own own' : Option Nat} {w wr : World} {ob : Obj} (h : w.heap[c]? = some ob) (hp : c ≠ p) (ho : some c ≠ own) (hF : Fr p own w wr) (hN : NewOwn w own own') : wr.heap[c]? = some ob ∧ some c ≠ own' := by
  have hc := lt_of_block h
  refine ⟨(hF.block c hc hp ho).trans h, ?_⟩
  rcases hN with e | ⟨b, e, hb⟩
  · rw [e]; exact ho
  · rw [e]; intro e2; simp only [Option.some.injEq] at e2; omega

set_option maxRecDepth 1000000 in
set_option maxHeartbeats 4000000 in
theorem chain_and (f : Nat) (IH : ∀ g, g ≤ f → NotC g) (p : Nat) (l : List Po.Tok) (o : List Po.Nd) (own : Option Nat) (w : World) (r : Option (List Po.Tok × List Po.Nd)) (hr : Po.P (f + 1) 1 l o = some r) (hin : Pin p w l o own) :
    Calls Tryz.prog 72 #[.pointer (some ⟨p, 0, none⟩), .string ⟨#[38, 38]⟩, .int .i64 9, .func (.func 73) #[.pointer (some ⟨p, 0, none⟩)] #[]] w (PSays p w own r) := by
  have HI := Lib.hid hin
  obtain ⟨S, hS⟩ : ∃ S, PSays p w own r = S := ⟨_, rfl⟩
  rw [hS]
  rw [Po.P_and] at hr
  cases hq : Po.P f 2 l o with
  | none => rw [hq] at hr; cases hr
  | some q =>
    have HQ := Lib.hid hq
    rw [hq] at hr
    have HR1 := Lib.hid hr
    clear hq hr hin
    go_enter Tryz.func72, Tryz.ntmps72
    go_wp2_with fail
    refine (IH f (Nat.le_refl _) p l o own _ q HQ.out HI.out).mono ?_
    intro e w1 hn
    cases q with
    | none =>
      obtain ⟨hf, hfr⟩ := hn
      have HX := Lib.hid (show r = none from (Option.some.inj HR1.out).symm)
      unfold Fails at hf
      subst hf
      go_wp2_with fail
      rw [← hS, HX.out]
      exact ⟨rfl, rfl, hfr⟩
    | some x =>
      obtain ⟨hf, own1, hin1, hnw1, hfr1⟩ := hn
      subst hf
      have HX := Lib.hid (show Po.P f 4 x.1 x.2 = some r from HR1.out)
      have HOK := Lib.hid ((Po.P_ok f 2 l o x.1 x.2 HI.out.toks HI.out.nds HQ.out).2.2.2 (by decide) (by decide))
      have HIN := Lib.hid hin1
      have HFR := Lib.hid (And.intro hnw1 hfr1)
      clear hin1 hnw1 hfr1 HR1 HQ
      go_wp2_with fail
      go_loopg [9] f (fun g s9 wr => ∃ (l1 : List Po.Tok) (o1 : List Po.Nd) (own1 : Option Nat), s9 = .int .i64 ((o1.length - 1 : Nat) : Int) ∧ Aside (Po.P g 4 l1 o1 = some r ∧ g ≤ f ∧ 0 < o1.length) ∧ Hid (Pin p wr l1 o1 own1) ∧ Hid (NewOwn w own own1 ∧ Fr p own w wr))
      case atStart => exact ⟨x.1, x.2, own1, rfl, ⟨HX.out, Nat.le_refl _, Nat.lt_of_le_of_lt (Nat.zero_le _) HOK.out⟩, HIN, HFR⟩
      case round =>
        clear HX HOK HIN HFR
        obtain ⟨l1, o1, own1, rfl, HA, HIN, HFR⟩ := hrel
        cases gk with
        | zero => have := HA.out.1; simp [Po.P] at this
        | succ g =>
          have HG := Lib.hid HA.out.2.1
          cases hi : Po.isT l1 3 [38, 38] with
          | false =>
            have HB := Lib.hid hi
            have HX := Lib.hid (show r = some (l1, o1) by
              have h := HA.out.1
              rw [Po.P_stop4 hi] at h
              exact (Option.some.inj h).symm)
            clear hi
            go_wp2_with (go_at_call 92; refine (pa_accept_no 3 ⟨#[38, 38]⟩ _ HIN.out.at_ HB.out).mono ?_; rintro e w2 ⟨rfl, he1⟩; have HE1 := Lib.hid he1; clear he1)
            try go_ret
            rw [← hS, HX.out]
            exact ⟨rfl, own1, HIN.out.eat HE1.out HIN.out.toks (Nat.le_refl _), HFR.out.1, HFR.out.2.trans HE1.out.fr.weaken HFR.out.1⟩
          | true =>
            have HB := Lib.hid hi
            have hr := HA.out.1
            rw [Po.P_more4 hi] at hr
            clear hi
            go_upto_region 3 with (go_at_call 92; refine (pa_accept_yes 3 ⟨#[38, 38]⟩ _ HIN.out.at_ HB.out).mono ?_; rintro e w2 ⟨rfl, he1⟩; have HE1 := Lib.hid he1; clear he1)
            cases hq : Po.P g 2 l1.tail o1 with
            | none => rw [hq] at hr; cases hr
            | some q =>
              have HQ := Lib.hid hq
              rw [hq] at hr
              have HR1 := Lib.hid hr
              clear hq hr
              go_wp2_with fail
              refine (IH g (by have := HG.out; omega) p l1.tail o1 own1 _ q HQ.out (HIN.out.tail HE1.out)).mono ?_
              intro e w3 hn
              cases q with
              | none =>
                obtain ⟨hf, hfr⟩ := hn
                have HX := Lib.hid (show r = none from (Option.some.inj HR1.out).symm)
                unfold Fails at hf
                subst hf
                go_wp2_with fail
                rw [← hS, HX.out]
                exact ⟨rfl, rfl, (HFR.out.2.trans HE1.out.fr.weaken HFR.out.1).trans hfr HFR.out.1⟩
              | some y =>
                obtain ⟨hf, own2, hin2, hnw2, hfr2⟩ := hn
                subst hf
                have HX := Lib.hid (show Po.P g 4 y.1 (y.2 ++ [⟨9, 0, 0, 0, Po.zero16, [o1.length - 1, y.2.length - 1]⟩]) = some r from HR1.out)
                have hFR2 := (HFR.out.2.trans HE1.out.fr.weaken HFR.out.1).trans hfr2 HFR.out.1
                have hNW2 := HFR.out.1.trans (hnw2.more HE1.out.fr.size) HFR.out.2.size
                have hOK := (Po.P_ok g 2 l1.tail o1 y.1 y.2 HIN.out.toks.tail HIN.out.nds HQ.out).2.2.2 (by decide) (by decide)
                have hNO := Po.P_nodes g 2 l1.tail o1 y.1 y.2 HQ.out
                have hTL := isT_tail HB.out
                have hFW := HIN.out.few
                have H0L := HA.out.2.2
                have HNUM := Lib.hid (And.intro hOK (And.intro hNO (And.intro hTL (And.intro hFW H0L))))
                have HIN2 := Lib.hid hin2
                have HFR2 := Lib.hid (And.intro hNW2 hFR2)
                clear hin2 hnw2 hfr2 hFR2 hNW2 hOK hNO hTL hFW H0L HR1 HQ
                go_wp2_with fail
                have hlt2 := HIN2.out.at_.lt
                have hgt2 := HIN2.out.at_.own_gt
                refine (pa_add_op 9 [o1.length - 1, y.2.length - 1] _ _ (HIN2.out.keep (Below.new _)).at_ (ofIs_two hlt2 (fun k hk => (hgt2 k hk).2)) (by have := HIN2.out.few; omega)).mono ?_
                intro e w4 ha
                have hsay := PSays.added (HFR2.out.2.trans (.of_below (Below.new _)) (.refl _ _)) HFR2.out.1 ha HIN2.out.toks HIN2.out.nds (Po.ok_bin (.inl rfl) (by have := HNUM.out; omega) (by have := HNUM.out; omega)) (by have := HNUM.out; omega)
                obtain ⟨-, own3, hin3, hnw3, hfr3⟩ := hsay
                have he := ha.1
                subst he
                have HIN3 := Lib.hid hin3
                have HFR3 := Lib.hid (And.intro hnw3 hfr3)
                clear ha hin3 hnw3 hfr3 hlt2 hgt2
                go_wp2_with fail
                go_roundg g
                case measure => omega
                case rel => exact ⟨y.1, y.2 ++ [⟨9, 0, 0, 0, Po.zero16, [o1.length - 1, y.2.length - 1]⟩], own3, by simp, ⟨HX.out, by have := HG.out; omega, by simp⟩, HIN3, HFR3⟩

set_option maxRecDepth 1000000 in
set_option maxHeartbeats 4000000 in
theorem chain_or (f : Nat) (IH : ∀ g, g ≤ f → AndC g) (p : Nat) (l : List Po.Tok) (o : List Po.Nd) (own : Option Nat) (w : World) (r : Option (List Po.Tok × List Po.Nd)) (c : Nat) (hc : w.heap[c]? = some (.cells #[.pointer (some ⟨p, 0, none⟩)] 92 (0, 0))) (hcp : c ≠ p) (hco : some c ≠ own) (hr : Po.P (f + 1) 0 l o = some r) (hin : Pin p w l o own) :
    Calls Tryz.prog 72 #[.pointer (some ⟨p, 0, none⟩), .string ⟨#[124, 124]⟩, .int .i64 10, .func (.func 71) #[] #[.pointer (some ⟨c, 0, none⟩)]] w (PSays p w own r) := by
  have HI := Lib.hid hin
  have HCC := Lib.hid (And.intro hc (And.intro hcp hco))
  clear hc hcp hco
  obtain ⟨S, hS⟩ : ∃ S, PSays p w own r = S := ⟨_, rfl⟩
  rw [hS]
  rw [Po.P_or] at hr
  cases hq : Po.P f 1 l o with
  | none => rw [hq] at hr; cases hr
  | some q =>
    have HQ := Lib.hid hq
    rw [hq] at hr
    have HR1 := Lib.hid hr
    clear hq hr hin
    go_enter Tryz.func72, Tryz.ntmps72
    go_wp2_with fail
    refine (IH f (Nat.le_refl _) p c l o own _ q HQ.out HI.out HCC.out.1 HCC.out.2.1 HCC.out.2.2).mono ?_
    intro e w1 hn
    cases q with
    | none =>
      obtain ⟨hf, hfr⟩ := hn
      have HX := Lib.hid (show r = none from (Option.some.inj HR1.out).symm)
      unfold Fails at hf
      subst hf
      go_wp2_with fail
      rw [← hS, HX.out]
      exact ⟨rfl, rfl, hfr⟩
    | some x =>
      obtain ⟨hf, own1, hin1, hnw1, hfr1⟩ := hn
      subst hf
      have HX := Lib.hid (show Po.P f 3 x.1 x.2 = some r from HR1.out)
      have HOK := Lib.hid ((Po.P_ok f 1 l o x.1 x.2 HI.out.toks HI.out.nds HQ.out).2.2.2 (by decide) (by decide))
      have HIN := Lib.hid hin1
      have HFR := Lib.hid (And.intro hnw1 hfr1)
      clear hin1 hnw1 hfr1 HR1 HQ
      go_wp2_with fail
      go_loopg [9] f (fun g s9 wr => ∃ (l1 : List Po.Tok) (o1 : List Po.Nd) (own1 : Option Nat), s9 = .int .i64 ((o1.length - 1 : Nat) : Int) ∧ Aside (Po.P g 3 l1 o1 = some r ∧ g ≤ f ∧ 0 < o1.length) ∧ Hid (Pin p wr l1 o1 own1) ∧ Hid (NewOwn w own own1 ∧ Fr p own w wr))
      case atStart => exact ⟨x.1, x.2, own1, rfl, ⟨HX.out, Nat.le_refl _, Nat.lt_of_le_of_lt (Nat.zero_le _) HOK.out⟩, HIN, HFR⟩
      case round =>
        clear HX HOK HIN HFR
        obtain ⟨l1, o1, own1, rfl, HA, HIN, HFR⟩ := hrel
        cases gk with
        | zero => have := HA.out.1; simp [Po.P] at this
        | succ g =>
          have HG := Lib.hid HA.out.2.1
          cases hi : Po.isT l1 3 [124, 124] with
          | false =>
            have HB := Lib.hid hi
            have HX := Lib.hid (show r = some (l1, o1) by
              have h := HA.out.1
              rw [Po.P_stop3 hi] at h
              exact (Option.some.inj h).symm)
            clear hi
            go_wp2_with (go_at_call 92; refine (pa_accept_no 3 ⟨#[124, 124]⟩ _ HIN.out.at_ HB.out).mono ?_; rintro e w2 ⟨rfl, he1⟩; have HE1 := Lib.hid he1; clear he1)
            try go_ret
            rw [← hS, HX.out]
            exact ⟨rfl, own1, HIN.out.eat HE1.out HIN.out.toks (Nat.le_refl _), HFR.out.1, HFR.out.2.trans HE1.out.fr.weaken HFR.out.1⟩
          | true =>
            have HB := Lib.hid hi
            have hr := HA.out.1
            rw [Po.P_more3 hi] at hr
            clear hi
            go_upto_region 3 with (go_at_call 92; refine (pa_accept_yes 3 ⟨#[124, 124]⟩ _ HIN.out.at_ HB.out).mono ?_; rintro e w2 ⟨rfl, he1⟩; have HE1 := Lib.hid he1; clear he1)
            cases hq : Po.P g 1 l1.tail o1 with
            | none => rw [hq] at hr; cases hr
            | some q =>
              have HQ := Lib.hid hq
              rw [hq] at hr
              have HR1 := Lib.hid hr
              clear hq hr
              go_wp2_with fail
              refine (IH g (by have := HG.out; omega) p c l1.tail o1 own1 _ q HQ.out (HIN.out.tail HE1.out) (cap_keep HCC.out.1 HCC.out.2.1 HCC.out.2.2 (HFR.out.2.trans HE1.out.fr.weaken HFR.out.1) HFR.out.1).1 HCC.out.2.1 (cap_keep HCC.out.1 HCC.out.2.1 HCC.out.2.2 (HFR.out.2.trans HE1.out.fr.weaken HFR.out.1) HFR.out.1).2).mono ?_
              intro e w3 hn
              cases q with
              | none =>
                obtain ⟨hf, hfr⟩ := hn
                have HX := Lib.hid (show r = none from (Option.some.inj HR1.out).symm)
                unfold Fails at hf
                subst hf
                go_wp2_with fail
                rw [← hS, HX.out]
                exact ⟨rfl, rfl, (HFR.out.2.trans HE1.out.fr.weaken HFR.out.1).trans hfr HFR.out.1⟩
              | some y =>
                obtain ⟨hf, own2, hin2, hnw2, hfr2⟩ := hn
                subst hf
                have HX := Lib.hid (show Po.P g 3 y.1 (y.2 ++ [⟨10, 0, 0, 0, Po.zero16, [o1.length - 1, y.2.length - 1]⟩]) = some r from HR1.out)
                have hFR2 := (HFR.out.2.trans HE1.out.fr.weaken HFR.out.1).trans hfr2 HFR.out.1
                have hNW2 := HFR.out.1.trans (hnw2.more HE1.out.fr.size) HFR.out.2.size
                have hOK := (Po.P_ok g 1 l1.tail o1 y.1 y.2 HIN.out.toks.tail HIN.out.nds HQ.out).2.2.2 (by decide) (by decide)
                have hNO := Po.P_nodes g 1 l1.tail o1 y.1 y.2 HQ.out
                have hTL := isT_tail HB.out
                have hFW := HIN.out.few
                have H0L := HA.out.2.2
                have HNUM := Lib.hid (And.intro hOK (And.intro hNO (And.intro hTL (And.intro hFW H0L))))
                have HIN2 := Lib.hid hin2
                have HFR2 := Lib.hid (And.intro hNW2 hFR2)
                clear hin2 hnw2 hfr2 hFR2 hNW2 hOK hNO hTL hFW H0L HR1 HQ
                go_wp2_with fail
                have hlt2 := HIN2.out.at_.lt
                have hgt2 := HIN2.out.at_.own_gt
                refine (pa_add_op 10 [o1.length - 1, y.2.length - 1] _ _ (HIN2.out.keep (Below.new _)).at_ (ofIs_two hlt2 (fun k hk => (hgt2 k hk).2)) (by have := HIN2.out.few; omega)).mono ?_
                intro e w4 ha
                have hsay := PSays.added (HFR2.out.2.trans (.of_below (Below.new _)) (.refl _ _)) HFR2.out.1 ha HIN2.out.toks HIN2.out.nds (Po.ok_bin (.inr rfl) (by have := HNUM.out; omega) (by have := HNUM.out; omega)) (by have := HNUM.out; omega)
                obtain ⟨-, own3, hin3, hnw3, hfr3⟩ := hsay
                have he := ha.1
                subst he
                have HIN3 := Lib.hid hin3
                have HFR3 := Lib.hid (And.intro hnw3 hfr3)
                clear ha hin3 hnw3 hfr3 hlt2 hgt2
                go_wp2_with fail
                go_roundg g
                case measure => omega
                case rel => exact ⟨y.1, y.2 ++ [⟨10, 0, 0, 0, Po.zero16, [o1.length - 1, y.2.length - 1]⟩], own3, by simp, ⟨HX.out, by have := HG.out; omega, by simp⟩, HIN3, HFR3⟩

set_option maxRecDepth 1000000 in
theorem and_step (f : Nat) (IH : ∀ g, g ≤ f → NotC g) : AndC (f + 1) := by
  intro p c l o own w r hr hin hc hcp hco
  have hcell : w.cell? ⟨c, 0, none⟩ = some (.pointer (some ⟨p, 0, none⟩)) := by simp [World.cell?, hc]
  have HI := Lib.hid (And.intro hr hin)
  have hmf : ∀ (fn : Fn) (first cap : Array Value) (w : World), (Instr.makeFunc fn first cap).run Tryz.prog w = .ok (.func fn first cap) w := fun _ _ _ _ => rfl
  obtain ⟨S, hS⟩ : ∃ S, PSays p w own r = S := ⟨_, rfl⟩
  rw [hS]
  clear hr hin hc hcp hco
  go_enter Tryz.func71, Tryz.ntmps71
  go_wp2_with fail
  refine (chain_and f IH p l o own w r HI.out.1 HI.out.2).mono ?_
  intro e w1 hn
  rw [hS] at hn
  have HN := Lib.hid hn
  clear hn
  cases r with
  | none =>
    have h := HN.out
    rw [← hS] at h
    have hf := h.1
    unfold Fails at hf
    subst hf
    clear h
    go_wp2_with fail
    exact ⟨rfl, HN.out⟩
  | some x =>
    have h := HN.out
    rw [← hS] at h
    have hf := h.1
    subst hf
    clear h
    go_wp2_with fail
    try go_ret
    exact HN.out

set_option maxRecDepth 1000000 in
theorem pol_step (f : Nat) (IH : ∀ g, g ≤ f → AndC g) : PolC (f + 1) := by
  intro p l o own w r hr hin
  have hp := hin.at_.lt
  have hgt := hin.at_.own_gt
  have HI := Lib.hid (And.intro hr hin)
  have hmf : ∀ (fn : Fn) (first cap : Array Value) (w : World), (Instr.makeFunc fn first cap).run Tryz.prog w = .ok (.func fn first cap) w := fun _ _ _ _ => rfl
  obtain ⟨S, hS⟩ : ∃ S, PSays p w own r = S := ⟨_, rfl⟩
  rw [hS]
  have HP := Lib.hid (And.intro hp hgt)
  clear hr hin hp hgt
  go_enter Tryz.func53, Tryz.ntmps53
  go_wp2_with fail
  refine (chain_or f IH p l o own _ r w.heap.size (heap_alloc_new _ _) (by have := HP.out.1; omega) (fun e => by have := HP.out.2 _ e.symm; omega) HI.out.1 (HI.out.2.keep (Below.new _))).mono ?_
  intro e w1 hn
  have hn := PSays.after (.of_below (Below.new _)) (.refl _ _) hn
  rw [hS] at hn
  have HN := Lib.hid hn
  clear hn
  cases r with
  | none =>
    have h := HN.out
    rw [← hS] at h
    have hf := h.1
    unfold Fails at hf
    subst hf
    clear h
    go_wp2_with fail
    exact ⟨rfl, HN.out⟩
  | some x =>
    have h := HN.out
    rw [← hS] at h
    have hf := h.1
    subst hf
    clear h
    go_wp2_with fail
    try go_ret
    exact HN.out
theorem rec_all : ∀ f, (∀ g, g ≤ f → NotC g) ∧ (∀ g, g ≤ f → AndC g) ∧ (∀ g, g ≤ f → PolC g)
  | 0 => by
    have z : ∀ lv l o r, Po.P 0 lv l o = some r → False := fun lv l o r h => by simp [Po.P] at h
    refine ⟨fun g hg p l o own w r hr => ?_, fun g hg p c l o own w r hr => ?_, fun g hg p l o own w r hr => ?_⟩ <;>
      (have : g = 0 := by omega
       subst this
       exact absurd (z _ _ _ _ hr) id)
  | f + 1 => by
    obtain ⟨hN, hA, hP⟩ := rec_all f
    refine ⟨fun g hg => ?_, fun g hg => ?_, fun g hg => ?_⟩
    · by_cases h : g ≤ f
      · exact hN g h
      · have : g = f + 1 := by omega
        subst this
        exact not_step f (hN f (Nat.le_refl _)) (hP f (Nat.le_refl _))
    · by_cases h : g ≤ f
      · exact hA g h
      · have : g = f + 1 := by omega
        subst this
        exact and_step f hN
    · by_cases h : g ≤ f
      · exact hP g h
      · have : g = f + 1 := by omega
        subst this
        exact pol_step f hA
/-- the parser, from its start -/
theorem pa_policy {p : Nat} {l : List Po.Tok} {o : List Po.Nd} {own : Option Nat} {w : World} {r : Option (List Po.Tok × List Po.Nd)} (f : Nat) (hr : Po.P f 0 l o = some r) (hin : Pin p w l o own) :
    Calls Tryz.prog 53 #[.pointer (some ⟨p, 0, none⟩)] w (PSays p w own r) := (rec_all f).2.2 f (Nat.le_refl _) p l o own w r hr hin
end Go.Proofs.YtdolpmmnjndfkaaGreatDoor
