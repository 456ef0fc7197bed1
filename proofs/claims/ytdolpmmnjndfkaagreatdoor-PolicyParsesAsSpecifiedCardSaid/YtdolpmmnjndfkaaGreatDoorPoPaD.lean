/- Chapter 29, the walk: atom of the parser. -/
import Derived.Test.YtdolpmmnjndfkaaGreatDoorPoDig
namespace Go.Proofs.YtdolpmmnjndfkaaGreatDoor
open Go.RowKit
theorem compare_dg {a b : Nat} {l r : List Po.Tok} {x : Po.Nd} (h : Po.compare a b l = some (x, r)) : x.dg.length = 16 ∧ x.of = [] := by
  unfold Po.compare at h
  split at h
  · simp only [Option.map_eq_some_iff] at h
    obtain ⟨y, _, h⟩ := h
    simp only [Prod.mk.injEq] at h
    rw [← h.1]
    exact ⟨rfl, rfl⟩
  · simp only [Option.bind_eq_some_iff, Option.map_eq_some_iff] at h
    obtain ⟨z, _, y, _, h⟩ := h
    simp only [Prod.mk.injEq] at h
    rw [← h.1]
    exact ⟨rfl, rfl⟩
theorem str_any : Po.str "any" = [97, 110, 121] := by decide +kernel
theorem str_version : Po.str "version" = [118, 101, 114, 115, 105, 111, 110] := by decide +kernel
theorem str_epoch : Po.str "epoch" = [101, 112, 111, 99, 104] := by decide +kernel
theorem str_stage : Po.str "stage" = [115, 116, 97, 103, 101] := by decide +kernel
theorem str_point : Po.str "point" = [112, 111, 105, 110, 116] := by decide +kernel
theorem str_is : Po.str "is" = [105, 115] := by decide +kernel
theorem str_took : Po.str "took" = [116, 111, 111, 107] := by decide +kernel
theorem str_true : Po.str "true" = [116, 114, 117, 101] := by decide +kernel
theorem str_false : Po.str "false" = [102, 97, 108, 115, 101] := by decide +kernel
def atomAt (xt : List UInt8) (r : List Po.Tok) : Po.R Po.Nd :=
    if xt = [97, 110, 121] then some (⟨1, 0, 0, 0, Po.zero16, []⟩, r)
    else if xt = [118, 101, 114, 115, 105, 111, 110] then Po.compare 2 3 r
    else if xt = [101, 112, 111, 99, 104] then Po.compare 4 5 r
    else if xt = [115, 116, 97, 103, 101] then (Po.must 2 [] r).bind fun y => (Po.must 1 [105, 115] y.2).bind fun z => (Po.digestF 4 z.2).map fun d => (⟨6, y.1.n, 0, 0, d.1, []⟩, d.2)
    else if xt = [112, 111, 105, 110, 116] then (Po.must 2 [] r).bind fun y => (Po.must 2 [] y.2).bind fun z => (Po.must 1 [116, 111, 111, 107] z.2).bind fun v =>
      if Po.isT v.2 1 [116, 114, 117, 101] then some (⟨7, y.1.n, z.1.n, 1, Po.zero16, []⟩, v.2.tail)
      else (Po.must 1 [102, 97, 108, 115, 101] v.2).map fun u => (⟨7, y.1.n, z.1.n, 2, Po.zero16, []⟩, u.2)
    else none
theorem atom_eq (l : List Po.Tok) : Po.atom l = (Po.must 1 [] l).bind fun x => atomAt x.1.t x.2 := by
  unfold atomAt
  rw [← str_any, ← str_version, ← str_epoch, ← str_stage, ← str_point, ← str_is, ← str_took, ← str_true, ← str_false]
  rfl

set_option maxRecDepth 1000000 in
set_option maxHeartbeats 4000000 in
theorem pa_atom {p : Nat} {l : List Po.Tok} {o : List Po.Nd} {own : Option Nat} (w : World) (h : PsAt p w l o own) :
    Calls Tryz.prog 95 #[.pointer (some ⟨p, 0, none⟩)] w (NodeSays p w (Po.atom l)) := by
  have hp := h.lt
  rw [atom_eq]
  obtain ⟨AT, hAT⟩ : ∃ AT, ((Po.must 1 [] l).bind fun x => atomAt x.1.t x.2) = AT := ⟨_, rfl⟩
  rw [hAT]
  obtain ⟨S, hS⟩ : ∃ S, NodeSays p w AT = S := ⟨_, rfl⟩
  rw [hS]
  obtain ⟨T, N, R, K, L⟩ := letters
  have h0 := h.keep (Below.new (.cells nd0 67))
  have hr : (w.alloc (.cells nd0 67)).heap[w.heap.size]? = some (.cells nd0 67 (0, 0)) := heap_alloc_new _ _
  have hw := Below.new (w := w) (.cells nd0 67)
  have hpr : w.heap.size ≠ p := by omega
  clear h
  have hfd := fun k n a t w => field_n k n a t w
  have hft := fun k n a t w => field_t k n a t w
  go_enter Tryz.func95, Tryz.ntmps95
  simp only [L.store, L.build]
  have la := L.agg
  have lz := L.size
  have HL := Lib.hid L
  clear L
  go_upto_region 1 with fail
  change Code.wp _ _ _ _ (w.alloc (.cells nd0 67))
  revert h0 hr hw
  generalize w.alloc (.cells nd0 67) = W0
  intro h0 hr hw
  have H0 := Lib.hid h0
  have HR := Lib.hid hr
  have HW := Lib.hid hw
  have HE0 := Lib.hid (Eats.refl h0)
  clear h0 hr hw
  cases hm : Po.must 1 [] l with
  | none =>
    have HM := Lib.hid hm
    have HX := Lib.hid (show AT = none by rw [← hAT, hm]; rfl)
    clear hm hAT
    go_wp2_with (go_at_call 94; refine (pa_must_no 1 ⟨#[]⟩ _ (HE0.out.at_ H0.out) HM.out).mono ?_; rintro e w9 ⟨hf, hfr⟩; unfold Fails at hf; subst hf)
    rw [← hS, HX.out]
    exact ⟨rfl, rfl, Fr.trans (Fr.of_below HW.out) (HE0.out.fr.trans hfr (.refl _ _)) (.refl _ _)⟩
  | some x =>
    obtain ⟨⟨xk, xt, xn⟩, r1⟩ := x
    have HM := Lib.hid hm
    have hA1 := Lib.hid (show AT = atomAt xt r1 by rw [← hAT, hm]; rfl)
    clear hm hAT
    go_upto_region 2 with (go_at_call 94; refine (pa_must_ok 1 ⟨#[]⟩ _ H0.out HM.out).mono ?_; rintro e w1 ⟨⟨a1, rfl⟩, he1⟩; have HE1 := Lib.hid he1; clear he1)
    by_cases h0 : xt = [97, 110, 121]
    · have e0 : (xt == [97, 110, 121]) = true := by rw [h0]; rfl
      have HX := Lib.hid (show AT = some (⟨1, 0, 0, 0, Po.zero16, []⟩, r1) by rw [hA1.out, atomAt, if_pos h0])
      clear hA1 h0
      go_wp2_with fail
      have hT := HL.out.ty
      subst hT
      refine upon_value (v := .agg (ndVals ⟨1, 0, 0, 0, Po.zero16, []⟩ (.slice none 0 0)).toArray) (w' := w1) (by kernel_rfl) ?_
      rename_i K0 hK0
      refine hK0 _ _ ?_
      have HR2 := HE1.out.var HR.out hpr
      refine wpList_store_mid rfl 67 (.tmp 2) (.tmp 12) rfl w.heap.size 0 (ndVals ⟨1, 0, 0, 0, Po.zero16, []⟩ (.slice none 0 0)).toArray rfl rfl (there_block HR2 (Nat.le_of_eq (nd_size rfl))) (by rw [(nd_size rfl)]; kernel_rfl) (nd_one rfl) ?_
      have hend := put_same (cs := (ndVals ⟨1, 0, 0, 0, Po.zero16, []⟩ (.slice none 0 0)).toArray) HR2 (nd_size rfl)
      have heat := (HE1.out.before HW.out hp).put (b := w.heap.size) (cs := (ndVals ⟨1, 0, 0, 0, Po.zero16, []⟩ (.slice none 0 0)).toArray) (Nat.le_refl _)
      change wpList _ _ _ _ _ (putRow w1 w.heap.size (ndVals ⟨1, 0, 0, 0, Po.zero16, []⟩ (.slice none 0 0)).toArray)
      revert hend heat
      generalize putRow w1 w.heap.size (ndVals ⟨1, 0, 0, 0, Po.zero16, []⟩ (.slice none 0 0)).toArray = W3
      intro hend heat
      have HEND := Lib.hid hend
      have HEAT := Lib.hid heat
      clear hend heat HR2 hK0
      go_wp2_with fail
      refine bodyPost_ret (v := .agg (ndVals ⟨1, 0, 0, 0, Po.zero16, []⟩ (.slice none 0 0)).toArray) (results_node Tryz.results95 rfl HEND.out (nd_size rfl)) rfl ?_
      rw [← hS, HX.out]
      exact ⟨rfl, HEAT.out⟩
    have n0 := h0
    have f0 : (xt == [97, 110, 121]) = false := by simpa using h0
    clear h0
    by_cases h1 : xt = [118, 101, 114, 115, 105, 111, 110]
    · have e1 : (xt == [118, 101, 114, 115, 105, 111, 110]) = true := by rw [h1]; rfl
      have hA2 := Lib.hid (show AT = Po.compare 2 3 r1 by rw [hA1.out, atomAt, if_neg n0, if_pos h1])
      clear hA1 h1
      go_wp2_with fail
      refine (pa_compare 2 3 _ (HE1.out.at_ H0.out)).mono ?_
      intro e w2 hn
      unfold NodeSays at hn
      cases hc : Po.compare 2 3 r1 with
      | none =>
        rw [hc] at hn
        obtain ⟨hf, hfr⟩ := hn
        have HX := Lib.hid (show AT = none by rw [hA2.out, hc])
        clear hc
        unfold Fails at hf
        subst hf
        go_wp2_with fail
        rw [← hS, HX.out]
        exact ⟨rfl, rfl, Fr.trans (Fr.of_below HW.out) (HE1.out.fr.trans hfr (.refl _ _)) (.refl _ _)⟩
      | some y =>
        obtain ⟨y, r2⟩ := y
        rw [hc] at hn
        obtain ⟨hf, he2⟩ := hn
        have HX := Lib.hid (show AT = some (y, r2) by rw [hA2.out, hc])
        have hdg := compare_dg hc
        have HE2 := Lib.hid (HE1.out.trans he2)
        have hsz := nd_size (v := .slice none 0 0) hdg.1
        clear hc he2
        simp only at hf
        subst hf
        have hT := HL.out.ty
        subst hT
        rename_i K0 hK0
        refine hK0 _ _ ?_
        have HR2 := HE2.out.var HR.out hpr
        refine wpList_store_mid rfl 67 (.tmp 2) (.tmp 16) rfl w.heap.size 0 (ndVals y (.slice none 0 0)).toArray rfl rfl (there_block HR2 (Nat.le_of_eq hsz)) (by rw [hsz]; kernel_rfl) (nd_one rfl) ?_
        have hend := put_same (cs := (ndVals y (.slice none 0 0)).toArray) HR2 hsz
        have heat := (HE2.out.before HW.out hp).put (b := w.heap.size) (cs := (ndVals y (.slice none 0 0)).toArray) (Nat.le_refl _)
        change wpList _ _ _ _ _ (putRow w2 w.heap.size (ndVals y (.slice none 0 0)).toArray)
        revert hend heat
        generalize putRow w2 w.heap.size (ndVals y (.slice none 0 0)).toArray = W3
        intro hend heat
        have HEND := Lib.hid hend
        have HEAT := Lib.hid heat
        clear hend heat HR2 hK0
        go_wp2_with fail
        refine bodyPost_ret (v := .agg (ndVals y (.slice none 0 0)).toArray) (results_node Tryz.results95 rfl HEND.out hsz) rfl ?_
        rw [← hS, HX.out]
        exact ⟨rfl, HEAT.out⟩
    have n1 := h1
    have f1 : (xt == [118, 101, 114, 115, 105, 111, 110]) = false := by simpa using h1
    clear h1
    by_cases h2 : xt = [101, 112, 111, 99, 104]
    · have e2 : (xt == [101, 112, 111, 99, 104]) = true := by rw [h2]; rfl
      have hA2 := Lib.hid (show AT = Po.compare 4 5 r1 by rw [hA1.out, atomAt, if_neg n0, if_neg n1, if_pos h2])
      clear hA1 h2
      go_wp2_with fail
      refine (pa_compare 4 5 _ (HE1.out.at_ H0.out)).mono ?_
      intro e w2 hn
      unfold NodeSays at hn
      cases hc : Po.compare 4 5 r1 with
      | none =>
        rw [hc] at hn
        obtain ⟨hf, hfr⟩ := hn
        have HX := Lib.hid (show AT = none by rw [hA2.out, hc])
        clear hc
        unfold Fails at hf
        subst hf
        go_wp2_with fail
        rw [← hS, HX.out]
        exact ⟨rfl, rfl, Fr.trans (Fr.of_below HW.out) (HE1.out.fr.trans hfr (.refl _ _)) (.refl _ _)⟩
      | some y =>
        obtain ⟨y, r2⟩ := y
        rw [hc] at hn
        obtain ⟨hf, he2⟩ := hn
        have HX := Lib.hid (show AT = some (y, r2) by rw [hA2.out, hc])
        have hdg := compare_dg hc
        have HE2 := Lib.hid (HE1.out.trans he2)
        have hsz := nd_size (v := .slice none 0 0) hdg.1
        clear hc he2
        simp only at hf
        subst hf
        have hT := HL.out.ty
        subst hT
        rename_i K0 hK0
        refine hK0 _ _ ?_
        have HR2 := HE2.out.var HR.out hpr
        refine wpList_store_mid rfl 67 (.tmp 2) (.tmp 20) rfl w.heap.size 0 (ndVals y (.slice none 0 0)).toArray rfl rfl (there_block HR2 (Nat.le_of_eq hsz)) (by rw [hsz]; kernel_rfl) (nd_one rfl) ?_
        have hend := put_same (cs := (ndVals y (.slice none 0 0)).toArray) HR2 hsz
        have heat := (HE2.out.before HW.out hp).put (b := w.heap.size) (cs := (ndVals y (.slice none 0 0)).toArray) (Nat.le_refl _)
        change wpList _ _ _ _ _ (putRow w2 w.heap.size (ndVals y (.slice none 0 0)).toArray)
        revert hend heat
        generalize putRow w2 w.heap.size (ndVals y (.slice none 0 0)).toArray = W3
        intro hend heat
        have HEND := Lib.hid hend
        have HEAT := Lib.hid heat
        clear hend heat HR2 hK0
        go_wp2_with fail
        refine bodyPost_ret (v := .agg (ndVals y (.slice none 0 0)).toArray) (results_node Tryz.results95 rfl HEND.out hsz) rfl ?_
        rw [← hS, HX.out]
        exact ⟨rfl, HEAT.out⟩
    have n2 := h2
    have f2 : (xt == [101, 112, 111, 99, 104]) = false := by simpa using h2
    clear h2
    by_cases h3 : xt = [115, 116, 97, 103, 101]
    · have e3 : (xt == [115, 116, 97, 103, 101]) = true := by rw [h3]; rfl
      have hA2 := Lib.hid (show AT = ((Po.must 2 [] r1).bind fun y => (Po.must 1 [105, 115] y.2).bind fun z => (Po.digestF 4 z.2).map fun d => (⟨6, y.1.n, 0, 0, d.1, []⟩, d.2)) by rw [hA1.out, atomAt, if_neg n0, if_neg n1, if_neg n2, if_pos h3])
      clear hA1 h3
      cases hm : Po.must 2 [] r1 with
      | none =>
        have HM1 := Lib.hid hm
        have HX := Lib.hid (show AT = none by rw [hA2.out, hm]; rfl)
        clear hm
        go_wp2_with (go_at_call 94; refine (pa_must_no 2 ⟨#[]⟩ _ (HE1.out.at_ H0.out) HM1.out).mono ?_; rintro e w9 ⟨hf, hfr⟩; unfold Fails at hf; subst hf)
        rw [← hS, HX.out]
        exact ⟨rfl, rfl, Fr.trans (Fr.of_below HW.out) (HE1.out.fr.trans hfr (.refl _ _)) (.refl _ _)⟩
      | some y =>
        obtain ⟨y, r2⟩ := y
        have HM1 := Lib.hid hm
        have hA3 := Lib.hid (show AT = ((Po.must 1 [105, 115] r2).bind fun z => (Po.digestF 4 z.2).map fun d => (⟨6, y.n, 0, 0, d.1, []⟩, d.2)) by rw [hA2.out, hm]; rfl)
        clear hm
        go_upto_region 10 with (go_at_call 94; refine (pa_must_ok 2 ⟨#[]⟩ _ (HE1.out.at_ H0.out) HM1.out).mono ?_; rintro e w2 ⟨⟨a2, rfl⟩, he2⟩; have HE2 := Lib.hid (HE1.out.trans he2); clear he2)
        cases hm : Po.must 1 [105, 115] r2 with
        | none =>
          have HM2 := Lib.hid hm
          have HX := Lib.hid (show AT = none by rw [hA3.out, hm]; rfl)
          clear hm
          go_wp2_with (go_at_call 94; refine (pa_must_no 1 ⟨#[105, 115]⟩ _ (HE2.out.at_ H0.out) HM2.out).mono ?_; rintro e w9 ⟨hf, hfr⟩; unfold Fails at hf; subst hf)
          rw [← hS, HX.out]
          exact ⟨rfl, rfl, Fr.trans (Fr.of_below HW.out) (HE2.out.fr.trans hfr (.refl _ _)) (.refl _ _)⟩
        | some z =>
          obtain ⟨z, r3⟩ := z
          have HM2 := Lib.hid hm
          have hA4 := Lib.hid (show AT = ((Po.digestF 4 r3).map fun d => (⟨6, y.n, 0, 0, d.1, []⟩, d.2)) by rw [hA3.out, hm]; rfl)
          clear hm
          go_upto_region 11 with (go_at_call 94; refine (pa_must_ok 1 ⟨#[105, 115]⟩ _ (HE2.out.at_ H0.out) HM2.out).mono ?_; rintro e w3 ⟨⟨a3, rfl⟩, he3⟩; have HE3 := Lib.hid (HE2.out.trans he3); clear he3)
          go_wp2_with fail
          refine (pa_digest _ (HE3.out.at_ H0.out)).mono ?_
          intro e w4 hn
          unfold DigSays at hn
          cases hc : Po.digestF 4 r3 with
          | none =>
            rw [hc] at hn
            obtain ⟨hf, hfr⟩ := hn
            have HX := Lib.hid (show AT = none by rw [hA4.out, hc]; rfl)
            clear hc
            unfold Fails at hf
            subst hf
            go_wp2_with fail
            rw [← hS, HX.out]
            exact ⟨rfl, rfl, Fr.trans (Fr.of_below HW.out) (HE3.out.fr.trans hfr (.refl _ _)) (.refl _ _)⟩
          | some d =>
            obtain ⟨d, r4⟩ := d
            rw [hc] at hn
            obtain ⟨hf, he4⟩ := hn
            have HX := Lib.hid (show AT = some (⟨6, y.n, 0, 0, d, []⟩, r4) by rw [hA4.out, hc]; rfl)
            have hdl := digest_len hc
            have HE4 := Lib.hid (HE3.out.trans he4)
            clear hc he4
            simp only at hf
            subst hf
            have hsz : (ndVals ⟨6, y.n, 0, 0, d, []⟩ (.slice none 0 0)).toArray.size = 21 := nd_size hdl
            go_wp2_with fail
            have hT := HL.out.ty
            subst hT
            refine upon_value (v := .agg (ndVals ⟨6, y.n, 0, 0, d, []⟩ (.slice none 0 0)).toArray) (w' := w4) (by obtain ⟨a0, a1, a2, a3, a4, a5, a6, a7, a8, a9, b0, b1, b2, b3, b4, b5, rfl⟩ := sixteen hdl; kernel_rfl) ?_
            rename_i K0 hK0
            refine hK0 _ _ ?_
            have HR2 := HE4.out.var HR.out hpr
            refine wpList_store_mid rfl 67 (.tmp 2) (.tmp 31) rfl w.heap.size 0 (ndVals ⟨6, y.n, 0, 0, d, []⟩ (.slice none 0 0)).toArray rfl rfl (there_block HR2 (Nat.le_of_eq hsz)) (by rw [hsz]; kernel_rfl) (nd_one rfl) ?_
            have hend := put_same (cs := (ndVals ⟨6, y.n, 0, 0, d, []⟩ (.slice none 0 0)).toArray) HR2 hsz
            have heat := (HE4.out.before HW.out hp).put (b := w.heap.size) (cs := (ndVals ⟨6, y.n, 0, 0, d, []⟩ (.slice none 0 0)).toArray) (Nat.le_refl _)
            change wpList _ _ _ _ _ (putRow w4 w.heap.size (ndVals ⟨6, y.n, 0, 0, d, []⟩ (.slice none 0 0)).toArray)
            revert hend heat
            generalize putRow w4 w.heap.size (ndVals ⟨6, y.n, 0, 0, d, []⟩ (.slice none 0 0)).toArray = W3
            intro hend heat
            have HEND := Lib.hid hend
            have HEAT := Lib.hid heat
            clear hend heat HR2 hK0
            go_wp2_with fail
            refine bodyPost_ret (v := .agg (ndVals ⟨6, y.n, 0, 0, d, []⟩ (.slice none 0 0)).toArray) (results_node Tryz.results95 rfl HEND.out hsz) rfl ?_
            rw [← hS, HX.out]
            exact ⟨rfl, HEAT.out⟩
    have n3 := h3
    have f3 : (xt == [115, 116, 97, 103, 101]) = false := by simpa using h3
    clear h3
    by_cases h4 : xt = [112, 111, 105, 110, 116]
    · have e4 : (xt == [112, 111, 105, 110, 116]) = true := by rw [h4]; rfl
      have hA2 := Lib.hid (show AT = ((Po.must 2 [] r1).bind fun y => (Po.must 2 [] y.2).bind fun z => (Po.must 1 [116, 111, 111, 107] z.2).bind fun v =>
            if Po.isT v.2 1 [116, 114, 117, 101] then some (⟨7, y.1.n, z.1.n, 1, Po.zero16, []⟩, v.2.tail)
            else (Po.must 1 [102, 97, 108, 115, 101] v.2).map fun u => (⟨7, y.1.n, z.1.n, 2, Po.zero16, []⟩, u.2)) by rw [hA1.out, atomAt, if_neg n0, if_neg n1, if_neg n2, if_neg n3, if_pos h4])
      clear hA1 h4
      cases hm : Po.must 2 [] r1 with
      | none =>
        have HM1 := Lib.hid hm
        have HX := Lib.hid (show AT = none by rw [hA2.out, hm]; rfl)
        clear hm
        go_wp2_with (go_at_call 94; refine (pa_must_no 2 ⟨#[]⟩ _ (HE1.out.at_ H0.out) HM1.out).mono ?_; rintro e w9 ⟨hf, hfr⟩; unfold Fails at hf; subst hf)
        rw [← hS, HX.out]
        exact ⟨rfl, rfl, Fr.trans (Fr.of_below HW.out) (HE1.out.fr.trans hfr (.refl _ _)) (.refl _ _)⟩
      | some y =>
        obtain ⟨y, r2⟩ := y
        have HM1 := Lib.hid hm
        have hA3 := Lib.hid (show AT = ((Po.must 2 [] r2).bind fun z => (Po.must 1 [116, 111, 111, 107] z.2).bind fun v =>
            if Po.isT v.2 1 [116, 114, 117, 101] then some (⟨7, y.n, z.1.n, 1, Po.zero16, []⟩, v.2.tail)
            else (Po.must 1 [102, 97, 108, 115, 101] v.2).map fun u => (⟨7, y.n, z.1.n, 2, Po.zero16, []⟩, u.2)) by rw [hA2.out, hm]; rfl)
        clear hm
        cases hm : Po.must 2 [] r2 with
        | none =>
          have HM2 := Lib.hid hm
          have HX := Lib.hid (show AT = none by rw [hA3.out, hm]; rfl)
          clear hm
          go_wp2_with fail
          refine (pa_must_ok 2 ⟨#[]⟩ _ (HE1.out.at_ H0.out) HM1.out).mono ?_
          rintro e w2 ⟨⟨a2, rfl⟩, he2⟩
          have HE2 := Lib.hid (HE1.out.trans he2)
          clear he2
          go_wp2_with fail
          refine (pa_must_no 2 ⟨#[]⟩ _ (HE2.out.at_ H0.out) HM2.out).mono ?_
          rintro e w9 ⟨hf, hfr⟩
          unfold Fails at hf
          subst hf
          go_wp2_with fail
          rw [← hS, HX.out]
          exact ⟨rfl, rfl, Fr.trans (Fr.of_below HW.out) (HE2.out.fr.trans hfr (.refl _ _)) (.refl _ _)⟩
        | some z =>
          obtain ⟨z, r3⟩ := z
          have HM2 := Lib.hid hm
          have hA4 := Lib.hid (show AT = ((Po.must 1 [116, 111, 111, 107] r3).bind fun v =>
            if Po.isT v.2 1 [116, 114, 117, 101] then some (⟨7, y.n, z.n, 1, Po.zero16, []⟩, v.2.tail)
            else (Po.must 1 [102, 97, 108, 115, 101] v.2).map fun u => (⟨7, y.n, z.n, 2, Po.zero16, []⟩, u.2)) by rw [hA3.out, hm]; rfl)
          clear hm
          go_wp2_with fail
          refine (pa_must_ok 2 ⟨#[]⟩ _ (HE1.out.at_ H0.out) HM1.out).mono ?_
          rintro e w2 ⟨⟨a2, rfl⟩, he2⟩
          have HE2 := Lib.hid (HE1.out.trans he2)
          clear he2
          go_wp2_with fail
          refine (pa_must_ok 2 ⟨#[]⟩ _ (HE2.out.at_ H0.out) HM2.out).mono ?_
          rintro e w3 ⟨⟨a3, rfl⟩, he3⟩
          have HE3 := Lib.hid (HE2.out.trans he3)
          clear he3
          go_upto_region 14 with fail
          cases hm : Po.must 1 [116, 111, 111, 107] r3 with
          | none =>
            have HM3 := Lib.hid hm
            have HX := Lib.hid (show AT = none by rw [hA4.out, hm]; rfl)
            clear hm
            go_wp2_with (go_at_call 94; refine (pa_must_no 1 ⟨#[116, 111, 111, 107]⟩ _ (HE3.out.at_ H0.out) HM3.out).mono ?_; rintro e w9 ⟨hf, hfr⟩; unfold Fails at hf; subst hf)
            rw [← hS, HX.out]
            exact ⟨rfl, rfl, Fr.trans (Fr.of_below HW.out) (HE3.out.fr.trans hfr (.refl _ _)) (.refl _ _)⟩
          | some v =>
            obtain ⟨v, r4⟩ := v
            have HM3 := Lib.hid hm
            have hA5 := Lib.hid (show AT = (if Po.isT r4 1 [116, 114, 117, 101] then some (⟨7, y.n, z.n, 1, Po.zero16, []⟩, r4.tail)
            else (Po.must 1 [102, 97, 108, 115, 101] r4).map fun u => (⟨7, y.n, z.n, 2, Po.zero16, []⟩, u.2)) by rw [hA4.out, hm]; rfl)
            clear hm
            go_upto_region 16 with (go_at_call 94; refine (pa_must_ok 1 ⟨#[116, 111, 111, 107]⟩ _ (HE3.out.at_ H0.out) HM3.out).mono ?_; rintro e w4 ⟨⟨a4, rfl⟩, he4⟩; have HE4 := Lib.hid (HE3.out.trans he4); clear he4)
            cases hi : Po.isT r4 1 [116, 114, 117, 101] with
            | true =>
              have HI := Lib.hid hi
              have HX := Lib.hid (show AT = some (⟨7, y.n, z.n, 1, Po.zero16, []⟩, r4.tail) by rw [hA5.out, if_pos hi])
              clear hi
              go_wp2_with (go_at_call 92; refine (pa_accept_yes 1 ⟨#[116, 114, 117, 101]⟩ _ (HE4.out.at_ H0.out) HI.out).mono ?_; rintro e w5 ⟨rfl, he5⟩; have HE5 := Lib.hid (HE4.out.trans he5); clear he5)
              have hT := HL.out.ty
              subst hT
              refine upon_value (v := .agg (ndVals ⟨7, y.n, z.n, 1, Po.zero16, []⟩ (.slice none 0 0)).toArray) (w' := w5) (by kernel_rfl) ?_
              rename_i K0 hK0
              refine hK0 _ _ ?_
              have HR2 := HE5.out.var HR.out hpr
              refine wpList_store_mid rfl 67 (.tmp 2) (.tmp 50) rfl w.heap.size 0 (ndVals ⟨7, y.n, z.n, 1, Po.zero16, []⟩ (.slice none 0 0)).toArray rfl rfl (there_block HR2 (Nat.le_of_eq (nd_size rfl))) (by rw [(nd_size rfl)]; kernel_rfl) (nd_one rfl) ?_
              have hend := put_same (cs := (ndVals ⟨7, y.n, z.n, 1, Po.zero16, []⟩ (.slice none 0 0)).toArray) HR2 (nd_size rfl)
              have heat := (HE5.out.before HW.out hp).put (b := w.heap.size) (cs := (ndVals ⟨7, y.n, z.n, 1, Po.zero16, []⟩ (.slice none 0 0)).toArray) (Nat.le_refl _)
              change wpList _ _ _ _ _ (putRow w5 w.heap.size (ndVals ⟨7, y.n, z.n, 1, Po.zero16, []⟩ (.slice none 0 0)).toArray)
              revert hend heat
              generalize putRow w5 w.heap.size (ndVals ⟨7, y.n, z.n, 1, Po.zero16, []⟩ (.slice none 0 0)).toArray = W3
              intro hend heat
              have HEND := Lib.hid hend
              have HEAT := Lib.hid heat
              clear hend heat HR2 hK0
              go_wp2_with fail
              refine bodyPost_ret (v := .agg (ndVals ⟨7, y.n, z.n, 1, Po.zero16, []⟩ (.slice none 0 0)).toArray) (results_node Tryz.results95 rfl HEND.out (nd_size rfl)) rfl ?_
              rw [← hS, HX.out]
              exact ⟨rfl, HEAT.out⟩
            | false =>
              have HI := Lib.hid hi
              have hA6 := Lib.hid (show AT = ((Po.must 1 [102, 97, 108, 115, 101] r4).map fun u => (⟨7, y.n, z.n, 2, Po.zero16, []⟩, u.2)) by rw [hA5.out, if_neg (by rw [hi]; simp)])
              clear hi
              go_upto_region 17 with (go_at_call 92; refine (pa_accept_no 1 ⟨#[116, 114, 117, 101]⟩ _ (HE4.out.at_ H0.out) HI.out).mono ?_; rintro e w5 ⟨rfl, he5⟩; have HE5 := Lib.hid (HE4.out.trans he5); clear he5)
              cases hm : Po.must 1 [102, 97, 108, 115, 101] r4 with
              | none =>
                have HM4 := Lib.hid hm
                have HX := Lib.hid (show AT = none by rw [hA6.out, hm]; rfl)
                clear hm
                go_wp2_with (go_at_call 94; refine (pa_must_no 1 ⟨#[102, 97, 108, 115, 101]⟩ _ (HE5.out.at_ H0.out) HM4.out).mono ?_; rintro e w9 ⟨hf, hfr⟩; unfold Fails at hf; subst hf)
                rw [← hS, HX.out]
                exact ⟨rfl, rfl, Fr.trans (Fr.of_below HW.out) (HE5.out.fr.trans hfr (.refl _ _)) (.refl _ _)⟩
              | some u =>
                obtain ⟨u, r5⟩ := u
                have HM4 := Lib.hid hm
                have HX := Lib.hid (show AT = some (⟨7, y.n, z.n, 2, Po.zero16, []⟩, r5) by rw [hA6.out, hm]; rfl)
                clear hm
                go_wp2_with (go_at_call 94; refine (pa_must_ok 1 ⟨#[102, 97, 108, 115, 101]⟩ _ (HE5.out.at_ H0.out) HM4.out).mono ?_; rintro e w6 ⟨⟨a6, rfl⟩, he6⟩; have HE6 := Lib.hid (HE5.out.trans he6); clear he6)
                have hT := HL.out.ty
                subst hT
                refine upon_value (v := .agg (ndVals ⟨7, y.n, z.n, 2, Po.zero16, []⟩ (.slice none 0 0)).toArray) (w' := w6) (by kernel_rfl) ?_
                rename_i K0 hK0
                refine hK0 _ _ ?_
                have HR2 := HE6.out.var HR.out hpr
                refine wpList_store_mid rfl 67 (.tmp 2) (.tmp 50) rfl w.heap.size 0 (ndVals ⟨7, y.n, z.n, 2, Po.zero16, []⟩ (.slice none 0 0)).toArray rfl rfl (there_block HR2 (Nat.le_of_eq (nd_size rfl))) (by rw [(nd_size rfl)]; kernel_rfl) (nd_one rfl) ?_
                have hend := put_same (cs := (ndVals ⟨7, y.n, z.n, 2, Po.zero16, []⟩ (.slice none 0 0)).toArray) HR2 (nd_size rfl)
                have heat := (HE6.out.before HW.out hp).put (b := w.heap.size) (cs := (ndVals ⟨7, y.n, z.n, 2, Po.zero16, []⟩ (.slice none 0 0)).toArray) (Nat.le_refl _)
                change wpList _ _ _ _ _ (putRow w6 w.heap.size (ndVals ⟨7, y.n, z.n, 2, Po.zero16, []⟩ (.slice none 0 0)).toArray)
                revert hend heat
                generalize putRow w6 w.heap.size (ndVals ⟨7, y.n, z.n, 2, Po.zero16, []⟩ (.slice none 0 0)).toArray = W3
                intro hend heat
                have HEND := Lib.hid hend
                have HEAT := Lib.hid heat
                clear hend heat HR2 hK0
                go_wp2_with fail
                refine bodyPost_ret (v := .agg (ndVals ⟨7, y.n, z.n, 2, Po.zero16, []⟩ (.slice none 0 0)).toArray) (results_node Tryz.results95 rfl HEND.out (nd_size rfl)) rfl ?_
                rw [← hS, HX.out]
                exact ⟨rfl, HEAT.out⟩
    have n4 := h4
    have f4 : (xt == [112, 111, 105, 110, 116]) = false := by simpa using h4
    clear h4
    have HX := Lib.hid (show AT = none by rw [hA1.out, atomAt, if_neg n0, if_neg n1, if_neg n2, if_neg n3, if_neg n4])
    clear hA1
    go_wp2_with fail
    rw [← hS, HX.out]
    exact ⟨rfl, rfl, Fr.trans (Fr.of_below HW.out) HE1.out.fr (.refl _ _)⟩
end Go.Proofs.YtdolpmmnjndfkaaGreatDoor
