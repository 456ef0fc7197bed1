/- Chapter 29, the walk: compare of the parser. -/
import Derived.Test.YtdolpmmnjndfkaaGreatDoorPoLet
namespace Go.Proofs.YtdolpmmnjndfkaaGreatDoor
open Go.RowKit
/-- what an eater of a node says -/
def NodeSays (p : Nat) (w : World) (r : Po.R Po.Nd) (e : Ending) (w' : World) : Prop := match r with
  | some x => e = .returned (.agg (ndVals x.1 (.slice none 0 0)).toArray) ∧ Eats p w x.2 w'
  | none => Fails e ∧ Fr p none w w'
theorem Fr.of_alloc {p : Nat} {w w2 : World} {ob : Obj} {own : Option Nat} (h2 : Fr p own (w.alloc ob) w2) : Fr p own w w2 := (Fr.of_below (Below.new ob)).trans h2 (.refl _ _)
/-- a variable of the caller's own stands behind what eats tokens -/
theorem Fr.var {p : Nat} {w w1 : World} {b : Nat} {ob : Obj} (h : Fr p none w w1) (hb : w.heap[b]? = some ob) (hp : b ≠ p) : w1.heap[b]? = some ob := (h.block b (lt_of_block hb) hp (by simp)).trans hb
theorem Eats.var {p : Nat} {w w1 : World} {l : List Po.Tok} {b : Nat} {ob : Obj} (h : Eats p w l w1) (hb : w.heap[b]? = some ob) (hp : b ≠ p) : w1.heap[b]? = some ob := h.fr.var hb hp
theorem Eats.put {p : Nat} {w w1 : World} {l : List Po.Tok} {b : Nat} {cs : Array Value} (h : Eats p w l w1) (hb : w.heap.size ≤ b) : Eats p w l (putRow w1 b cs) :=
  h.below (put_below (Below.refl _ _) hb)
theorem field_n (k n a : Int) (t : ByteArray) (w : World) : Sem.run Tryz.prog (Instr.field 62 (.agg #[.int .i64 k, .string t, .int .i64 n, .int .i64 a]) 2) w = .ok (.int .i64 n) w := by kernel_rfl
theorem field_t (k n a : Int) (t : ByteArray) (w : World) : Sem.run Tryz.prog (Instr.field 62 (.agg #[.int .i64 k, .string t, .int .i64 n, .int .i64 a]) 1) w = .ok (.string t) w := by kernel_rfl
theorem upon_value {P : Program} {o : Oper} {a : Act} {next : Act → World → Prop} {Q : Exit → Act → World → Prop} {r : Result Next} {v : Value} {w' : World} (hr : r = .ok (.value v) w') (h : next (a.put o.dst v) w') : Oper.upon P o a next Q r := by
  subst hr
  exact h
set_option maxRecDepth 1000000 in
set_option maxHeartbeats 1000000 in
theorem pa_compare {p : Nat} {l : List Po.Tok} {o : List Po.Nd} {own : Option Nat} (eq ge : Nat) (w : World) (h : PsAt p w l o own) :
    Calls Tryz.prog 114 #[.pointer (some ⟨p, 0, none⟩), .int .i64 eq, .int .i64 ge] w (NodeSays p w (Po.compare eq ge l)) := by
  have hp := h.lt
  obtain ⟨S, hS⟩ : ∃ S, NodeSays p w (Po.compare eq ge l) = S := ⟨_, rfl⟩
  rw [hS]
  obtain ⟨T, N, R, K, L⟩ := letters
  have h0 := h.keep (Below.new (.cells nd0 67))
  have hr : (w.alloc (.cells nd0 67)).heap[w.heap.size]? = some (.cells nd0 67 (0, 0)) := heap_alloc_new _ _
  have hw := Below.new (w := w) (.cells nd0 67)
  have hpr : w.heap.size ≠ p := by omega
  clear h
  have hfd := fun k n a t w => field_n k n a t w
  go_enter Tryz.func114, Tryz.ntmps114
  simp only [L.store, L.build]
  have la := L.agg
  have lz := L.size
  have HL := Lib.hid L
  clear L
  go_upto_region 2 with fail
  change Code.wp _ _ _ _ (w.alloc (.cells nd0 67))
  revert h0 hr hw
  generalize w.alloc (.cells nd0 67) = W0
  intro h0 hr hw
  have H0 := Lib.hid h0
  have HR := Lib.hid hr
  have HW := Lib.hid hw
  clear h0 hr hw
  cases hi : Po.isT l 3 [61, 61] with
  | true =>
    have HI := Lib.hid hi
    have hcmp := Lib.hid (show Po.compare eq ge l = (Po.must 2 [] l.tail).map fun x => (⟨eq, x.1.n, 0, 0, Po.zero16, []⟩, x.2) by rw [Po.compare, if_pos hi])
    clear hi
    go_upto_region 5 with (go_at_call 92; refine (pa_accept_yes 3 ⟨#[61, 61]⟩ _ H0.out HI.out).mono ?_; rintro e w1 ⟨rfl, he1⟩; have HE1 := Lib.hid he1; clear he1)
    cases hm : Po.must 2 [] l.tail with
    | none =>
      have HM := Lib.hid hm
      have HX := Lib.hid (show Po.compare eq ge l = none by rw [hcmp.out, hm]; rfl)
      clear hm
      go_wp2_with (go_at_call 94; refine (pa_must_no 2 ⟨#[]⟩ _ (HE1.out.at_ H0.out) HM.out).mono ?_; rintro e w2 ⟨hf, hfr⟩; unfold Fails at hf; subst hf)
      rw [← hS, HX.out]
      exact ⟨rfl, rfl, Fr.trans (Fr.of_below HW.out) (HE1.out.fr.trans hfr (.refl _ _)) (.refl _ _)⟩
    | some y =>
      obtain ⟨y, r⟩ := y
      have HM := Lib.hid hm
      have HX := Lib.hid (show Po.compare eq ge l = some (⟨eq, y.n, 0, 0, Po.zero16, []⟩, r) by rw [hcmp.out, hm]; rfl)
      clear hm
      go_wp2_with (go_at_call 94; refine (pa_must_ok 2 ⟨#[]⟩ _ (HE1.out.at_ H0.out) HM.out).mono ?_; rintro e w2 ⟨⟨a, rfl⟩, he2⟩; have HE := Lib.hid (HE1.out.trans he2); clear he2)
      have hT := HL.out.ty
      subst hT
      refine upon_value (v := .agg (ndVals ⟨eq, y.n, 0, 0, Po.zero16, []⟩ (.slice none 0 0)).toArray) (w' := w2) (by kernel_rfl) ?_
      rename_i K0 hK0
      refine hK0 _ _ ?_
      have HR2 := HE.out.var HR.out hpr
      refine wpList_store_mid rfl 67 (.tmp 6) (.tmp 19) rfl w.heap.size 0 (ndVals ⟨eq, y.n, 0, 0, Po.zero16, []⟩ (.slice none 0 0)).toArray rfl rfl (there_block HR2 (Nat.le_refl 21)) (by kernel_rfl) (nd_one rfl) ?_
      have hend := put_same (cs := (ndVals ⟨eq, y.n, 0, 0, Po.zero16, []⟩ (.slice none 0 0)).toArray) HR2 rfl
      have heat := (HE.out.before HW.out hp).put (b := w.heap.size) (cs := (ndVals ⟨eq, y.n, 0, 0, Po.zero16, []⟩ (.slice none 0 0)).toArray) (Nat.le_refl _)
      change wpList _ _ _ _ _ (putRow w2 w.heap.size (ndVals ⟨eq, y.n, 0, 0, Po.zero16, []⟩ (.slice none 0 0)).toArray)
      revert hend heat
      generalize putRow w2 w.heap.size (ndVals ⟨eq, y.n, 0, 0, Po.zero16, []⟩ (.slice none 0 0)).toArray = W3
      intro hend heat
      have HEND := Lib.hid hend
      have HEAT := Lib.hid heat
      clear hend heat HR2 hK0
      go_wp2_with fail
      refine bodyPost_ret (v := .agg (ndVals ⟨eq, y.n, 0, 0, Po.zero16, []⟩ (.slice none 0 0)).toArray) (results_node Tryz.results114 rfl HEND.out rfl) rfl ?_
      rw [← hS, HX.out]
      exact ⟨rfl, HEAT.out⟩

  | false =>
    have HI := Lib.hid hi
    have hcmp := Lib.hid (show Po.compare eq ge l = (Po.must 3 [62, 61] l).bind fun y => (Po.must 2 [] y.2).map fun x => (⟨ge, x.1.n, 0, 0, Po.zero16, []⟩, x.2) by rw [Po.compare, if_neg (by rw [hi]; simp)])
    clear hi
    go_upto_region 3 with (go_at_call 92; refine (pa_accept_no 3 ⟨#[61, 61]⟩ _ H0.out HI.out).mono ?_; rintro e w1 ⟨rfl, he1⟩; have HE1 := Lib.hid he1; clear he1)
    cases hm : Po.must 3 [62, 61] l with
    | none =>
      have HM := Lib.hid hm
      have HX := Lib.hid (show Po.compare eq ge l = none by rw [hcmp.out, hm]; rfl)
      clear hm
      go_wp2_with (go_at_call 94; refine (pa_must_no 3 ⟨#[62, 61]⟩ _ (HE1.out.at_ H0.out) HM.out).mono ?_; rintro e w2 ⟨hf, hfr⟩; unfold Fails at hf; subst hf)
      rw [← hS, HX.out]
      exact ⟨rfl, rfl, Fr.trans (Fr.of_below HW.out) (HE1.out.fr.trans hfr (.refl _ _)) (.refl _ _)⟩
    | some x =>
      obtain ⟨x, r0⟩ := x
      have HM0 := Lib.hid hm
      have hcmp2 := Lib.hid (show Po.compare eq ge l = (Po.must 2 [] r0).map fun x => (⟨ge, x.1.n, 0, 0, Po.zero16, []⟩, x.2) by rw [hcmp.out, hm]; rfl)
      clear hm
      go_upto_region 5 with (go_at_call 94; refine (pa_must_ok 3 ⟨#[62, 61]⟩ _ (HE1.out.at_ H0.out) HM0.out).mono ?_; rintro e w2 ⟨⟨a0, rfl⟩, he2⟩; have HE2 := Lib.hid (HE1.out.trans he2); clear he2)
      cases hm : Po.must 2 [] r0 with
      | none =>
        have HM := Lib.hid hm
        have HX := Lib.hid (show Po.compare eq ge l = none by rw [hcmp2.out, hm]; rfl)
        clear hm
        go_wp2_with (go_at_call 94; refine (pa_must_no 2 ⟨#[]⟩ _ (HE2.out.at_ H0.out) HM.out).mono ?_; rintro e w2 ⟨hf, hfr⟩; unfold Fails at hf; subst hf)
        rw [← hS, HX.out]
        exact ⟨rfl, rfl, Fr.trans (Fr.of_below HW.out) (HE2.out.fr.trans hfr (.refl _ _)) (.refl _ _)⟩
      | some y =>
        obtain ⟨y, r⟩ := y
        have HM := Lib.hid hm
        have HX := Lib.hid (show Po.compare eq ge l = some (⟨ge, y.n, 0, 0, Po.zero16, []⟩, r) by rw [hcmp2.out, hm]; rfl)
        clear hm
        go_wp2_with (go_at_call 94; refine (pa_must_ok 2 ⟨#[]⟩ _ (HE2.out.at_ H0.out) HM.out).mono ?_; rintro e w2 ⟨⟨a, rfl⟩, he2⟩; have HE := Lib.hid (HE2.out.trans he2); clear he2)
        have hT := HL.out.ty
        subst hT
        refine upon_value (v := .agg (ndVals ⟨ge, y.n, 0, 0, Po.zero16, []⟩ (.slice none 0 0)).toArray) (w' := w2) (by kernel_rfl) ?_
        rename_i K0 hK0
        refine hK0 _ _ ?_
        have HR2 := HE.out.var HR.out hpr
        refine wpList_store_mid rfl 67 (.tmp 6) (.tmp 19) rfl w.heap.size 0 (ndVals ⟨ge, y.n, 0, 0, Po.zero16, []⟩ (.slice none 0 0)).toArray rfl rfl (there_block HR2 (Nat.le_refl 21)) (by kernel_rfl) (nd_one rfl) ?_
        have hend := put_same (cs := (ndVals ⟨ge, y.n, 0, 0, Po.zero16, []⟩ (.slice none 0 0)).toArray) HR2 rfl
        have heat := (HE.out.before HW.out hp).put (b := w.heap.size) (cs := (ndVals ⟨ge, y.n, 0, 0, Po.zero16, []⟩ (.slice none 0 0)).toArray) (Nat.le_refl _)
        change wpList _ _ _ _ _ (putRow w2 w.heap.size (ndVals ⟨ge, y.n, 0, 0, Po.zero16, []⟩ (.slice none 0 0)).toArray)
        revert hend heat
        generalize putRow w2 w.heap.size (ndVals ⟨ge, y.n, 0, 0, Po.zero16, []⟩ (.slice none 0 0)).toArray = W3
        intro hend heat
        have HEND := Lib.hid hend
        have HEAT := Lib.hid heat
        clear hend heat HR2 hK0
        go_wp2_with fail
        refine bodyPost_ret (v := .agg (ndVals ⟨ge, y.n, 0, 0, Po.zero16, []⟩ (.slice none 0 0)).toArray) (results_node Tryz.results114 rfl HEND.out rfl) rfl ?_
        rw [← hS, HX.out]
        exact ⟨rfl, HEAT.out⟩

end Go.Proofs.YtdolpmmnjndfkaaGreatDoor
