/- Chapter 38: package reach: whether a log holds a revoked stage. | Chapter 29, the walk: Parse of package policy. | Chapter 38: package reach: Opened of a grant whose one bundle has the one stage "accept;". -/
import Derived.Test.YtdeccekeknlnoaaGreatDoorJPdE
import Derived.Test.YtdeccekeknlnoaaGreatDoorJHoL
import Derived.Test.YtdeccekeknlnoaaGreatDoorJDiD
import Derived.Test.YtdeccekeknlnoaaGreatDoorJPoTok
import Derived.Test.YtdeccekeknlnoaaGreatDoorJPoLxC
import Derived.Test.YtdeccekeknlnoaaGreatDoorJPoTreeW
import Derived.WalkMore
namespace Go.Proofs.YtdeccekeknlnoaaGreatDoor
open Go.RowKit Go.Shelf Go.Lib
theorem any_parse : (Po.parse [97, 110, 121]).2 = 0 := by decide
theorem any_eval (f : Po.Facts) : Po.eval (Po.parse [97, 110, 121]).1 f = 1 := by
  have e : (Po.parse [97, 110, 121]).1 = (Po.parse [97, 110, 121]).1 := rfl
  revert e
  generalize hp : (Po.parse [97, 110, 121]).1 = o
  intro _
  have ho : o = [⟨1, 0, 0, 0, List.replicate 16 0, []⟩] := by rw [← hp]; decide
  subst ho
  rfl
set_option maxRecDepth 1000000 in
set_option maxHeartbeats 1000000 in
theorem re_rev (o : Option (Nat × List Nat)) (d : List Nat) (hd : d.length = 16) (pb db : Nat) (v : Value) (w : World) (hc : w.cell? ⟨db, 0, none⟩ = some v) (hv : Dir1 w v o) :
    Calls Tryz.prog 38 #[.agg (evL d (.slice (some ⟨pb, 0, none⟩) 0 0)).toArray, .pointer (some ⟨db, 0, none⟩)] w fun e w' => e = .returned (.bool (lists o 3 d)) ∧ Below w.heap.size w w' := by
  obtain ⟨bo, hbo⟩ : ∃ x, lists o 3 d = x := ⟨_, rfl⟩
  obtain ⟨R, K, LD⟩ := letD
  obtain ⟨ev, hev⟩ : ∃ ev, (evL d (.slice (some ⟨pb, 0, none⟩) 0 0)).toArray = ev := ⟨_, rfl⟩
  have hb0 := Below.new (w := w) (.cells ev 93)
  have e0 := heap_alloc_new w (.cells ev 93)
  have c0 := al_cell (.cells ev 93) hc
  have hd0 : Dir1 (w.alloc (.cells ev 93)) v o := by
    match o, hv with
    | none, hv => exact hv
    | some (k', d'), hv => exact ⟨FactAt.below hv.1 hb0, hv.2⟩
  have hr3 : (w.alloc (.cells ev 93)).rangeAt w.heap.size 0 (b8 d) := fun j u hu => range_block e0 j u (by
    rw [← hev, evL]
    simp only
    rw [List.getElem?_append_left (List.getElem?_eq_some_iff.1 hu).1]
    exact hu)
  have hl3 := ld_mid (N := K) (n := 16) LD.sz hr3 (by rw [b8_len, hd])
  have HR := Lib.hid (di_revoked d hd o v _ hd0)
  obtain ⟨dv, hdv⟩ : ∃ dv, (b8 d).toArray = dv := ⟨_, rfl⟩
  rw [hdv] at hl3 HR
  rw [hbo] at HR ⊢
  rw [hev]
  have laR : ∀ w, Sem.run Tryz.prog (isAgg R) w = .ok true w := fun w => by rw [LD.ty]; exact Tryz.isAgg39 w
  have lzR : ∀ w, Sem.run Tryz.prog (sizeOf R) w = .ok K w := fun w => by rw [LD.ty, LD.sz]; exact Tryz.sizeOf39 w
  have o3 : ∀ x, Op.load 39 x = Op.load R x := fun x => by rw [LD.ty]
  have HB := Lib.hid hb0
  clear hb0 e0 hd0 hr3 LD hc hv hev hbo hdv
  go_enter Tryz.func38, Tryz.ntmps38
  simp only [o3]
  clear o3
  go_wp2_with (go_at_call 12; refine HR.out.mono ?_; rintro e W ⟨rfl, hb⟩)
  go_ret
  exact ⟨rfl, HB.out.trans (hb.mono HB.out.size)⟩
abbrev DgP := { d : List Nat // d.length = 16 } × Nat
instance : Inhabited DgP := ⟨⟨⟨List.replicate 16 0, by simp⟩, 0⟩⟩
def encE (x : DgP) : List Value := evL x.1.val (.slice (some ⟨x.2, 0, none⟩) 0 0)
theorem encE_len (x : DgP) : (encE x).length = 20 := by simp [encE, evL, b8_len, x.1.property]
theorem re_contains (o : Option (Nat × List Nat)) (x : Nat × Nat) (d : List Nat) (hd : d.length = 16) (pb db : Nat) (v : Value) (w : World) (hl : db < w.heap.size) (hc : w.cell? ⟨db, 0, none⟩ = some v) (hv : Dir1 w v o) (hx : LogAt w x d pb) :
    Calls Tryz.prog 40 #[.slice (some ⟨x.1, 0, none⟩) 1 x.2, .func (.func 38) #[] #[.pointer (some ⟨db, 0, none⟩)]] w fun e w' => e = .returned (.bool (lists o 3 d)) ∧ Below w.heap.size w w' := by
  have hp : PredBelow Tryz.prog 38 #[.pointer (some ⟨db, 0, none⟩)] (fun x => .agg (encE x).toArray) (fun x : DgP => lists o 3 x.1.val) w := fun W y hW => by
    have hdW : Dir1 W v o := by
      match o, hv with
      | none, hv => exact hv
      | some (k', d'), hv => exact ⟨FactAt.below hv.1 hW, hv.2⟩
    refine (re_rev o y.1.val y.1.property y.2 db v W ((hW.cell (p := ⟨db, 0, none⟩) hl).trans hc) hdW).mono ?_
    rintro e w' ⟨rfl, hb⟩
    exact ⟨rfl, hW.trans (hb.mono hW.size)⟩
  have hcc : ∀ j, j < [((⟨d, hd⟩, pb) : DgP)].length → ∀ i u, (encE ([((⟨d, hd⟩, pb) : DgP)][j]!))[i]? = some u → w.cell? ⟨x.1, 0 + j * 20 + i, none⟩ = some u := fun j hj i u hu => by
    obtain rfl : j = 0 := by simpa using hj
    have := hx.2 i u hu
    simpa using this
  exact AnyQ.slices_ContainsFunc Tryz.laysContE 20 Tryz.isAgg93 Tryz.sizeOf93 encE encE_len (fun x : DgP => lists o 3 x.1.val) 38 #[.pointer (some ⟨db, 0, none⟩)] (enters_of Tryz.func38 (by kernel_rfl) rfl) x.1 0 1 x.2 [((⟨d, hd⟩, pb) : DgP)] w hp (by simp) (by decide) hx.1 hcc |>.mono (by
    rintro e w' ⟨rfl, hb⟩
    exact ⟨by simp, hb⟩)
end Go.Proofs.YtdeccekeknlnoaaGreatDoor

namespace Go.Proofs.YtdeccekeknlnoaaGreatDoor
open Go.RowKit
def ParseSays (T : List UInt8) (w : World) (e : Ending) (w' : World) : Prop :=
  ∃ v, e = .returned (.tuple #[.agg #[v], .int .i64 ((Po.parse T).2 : Nat)]) ∧ RNds w' w.heap.size w'.heap.size v (Po.parse T).1 ∧ Po.OkAll (Po.parse T).1 ∧ Below w.heap.size w w'
def treeEnd : Option (List Po.Nd) → List Po.Nd × Nat
  | none => ([], 3)
  | some o => if 400 < o.length then ([], 2) else (o, 0)
theorem parse_toks (T : List UInt8) : Po.parse T = if (Po.toks T).2 ≠ 0 then ([], (Po.toks T).2) else if 30 < Po.depth (Po.toks T).1 then ([], 2) else treeEnd (Po.tree (Po.toks T).1) := by
  unfold Po.parse Po.toks
  split
  · rfl
  · cases Po.lex T with
    | none => rfl
    | some l =>
      simp only [ne_eq, not_true_eq_false, if_false]
      split
      · rfl
      · cases Po.tree l <;> rfl
theorem toks_ok (T : List UInt8) : Po.OkToks (Po.toks T).1 ∧ (Po.toks T).1.length ≤ 1500 := by
  unfold Po.toks
  split
  · exact ⟨fun x hx => by simp at hx, by simp⟩
  · cases h : Po.lex T with
    | none => exact ⟨fun x hx => by simp at hx, by simp⟩
    | some l => exact ⟨(Po.lex_ok h).1, by have := (Po.lex_ok h).2; simp only; omega⟩
theorem one_cell_par {W : World} {B : Nat} {a : Value} {t : TypeId} (h : W.heap[B]? = some (.cells #[a] t (0, 0))) : W.cell? ⟨B, 0, none⟩ = some a ∧ ∀ o, W.frozen? ⟨B, o, none⟩ = false := by
  constructor <;> simp [World.cell?, World.frozen?, h]
/-- how Parse hands back -/
theorem parse_end {T : List UInt8} {w W : World} {A : Option Addr} {n c : Nat} {a : Act} {e : Nat} {o : List Po.Nd} {V : Value} (hd : a.defers = []) (h2 : a.tmps[2]?.getD undef = .pointer (some ⟨w.heap.size, 0, none⟩)) (h3 : a.tmps[3]?.getD undef = .int .i64 e)
    (hw : Below w.heap.size w W) (hc : W.heap[w.heap.size]? = some (.cells #[V] 89 (0, 0))) (hp : Po.parse T = (o, e)) (hr : RNds W (w.heap.size + 1) W.heap.size (.slice A n c) o) (hok : Po.OkAll o) :
    bodyPost Tryz.prog Tryz.f37 (ParseSays T w) Exit.ret a (W.setCell ⟨w.heap.size, 0, none⟩ (.slice A n c)) := by
  have hs : (W.setCell ⟨w.heap.size, 0, none⟩ (.slice A n c)).heap.size = W.heap.size := by simp [World.setCell]
  have hc2 := set_one (v := .slice A n c) hc
  have hB : Below w.heap.size w (W.setCell ⟨w.heap.size, 0, none⟩ (.slice A n c)) := hw.setCell (p := ⟨w.heap.size, 0, none⟩) (Nat.le_refl _) _
  have hR : RNds (W.setCell ⟨w.heap.size, 0, none⟩ (.slice A n c)) (w.heap.size + 1) W.heap.size (.slice A n c) o := hr.frame fun k hk _ => set_other _ _ _ _ _ (by omega)
  revert hs hc2 hB hR
  generalize W.setCell ⟨w.heap.size, 0, none⟩ (.slice A n c) = W'
  intro hs hc2 hB hR
  obtain ⟨c0, -⟩ := one_cell_par hc2
  refine bodyPost_ret (v := .tuple #[.agg #[.slice A n c], .int .i64 e]) ?_ hd ⟨.slice A n c, by rw [hp], by rw [hp]; exact hR.more (Nat.le_succ _) (by rw [hs]; exact Nat.le_refl _), by rw [hp]; exact hok, hB⟩
  simp [results, Tryz.results37, go_sem, h2, h3, c0, asAddr]
set_option maxRecDepth 1000000 in
set_option maxHeartbeats 4000000 in
theorem po_parse (text : ByteArray) (w : World) (hg : Gl w) :
    Calls Tryz.prog 37 #[.string text] w (ParseSays text.data.toList w) := by
  obtain ⟨T, hT⟩ : ∃ T, text.data.toList = T := ⟨_, rfl⟩
  rw [hT]
  obtain ⟨S, hS⟩ : ∃ S, ParseSays T w = S := ⟨_, rfl⟩
  rw [hS]
  have hP := Lib.hid (parse_toks T)
  have hg0 := hg.mem (Below.new (w := w) (.cells #[.slice none 0 0] 89))
  have cTok := lx_tokens text (w.alloc (.cells #[.slice none 0 0] 89)) hg0
  rw [hT] at cTok
  obtain ⟨tk, hk⟩ : ∃ tk, Po.toks T = tk := ⟨_, rfl⟩
  have HK := Lib.hid hk
  have hok := toks_ok T
  rw [hk] at hok
  have HOK := Lib.hid hok
  unfold TokSays at cTok
  rw [hk] at cTok
  obtain ⟨tl, te⟩ := tk
  simp only at cTok
  clear hT hg hg0 hk hok
  go_enter Tryz.func37, Tryz.ntmps37
  go_wp2_with fail
  refine cTok.mono ?_
  rintro e w1 ⟨v, rfl, hrt, hb1⟩
  have HR := Lib.hid hrt
  have hr0 := (hb1.block w.heap.size (by simp)).trans (heap_alloc_new _ _)
  have hs1 := hb1.size
  simp only [World.size_alloc] at hs1
  have HB1 := Lib.hid ((Below.new (w := w) (.cells #[.slice none 0 0] 89)).trans (hb1.mono (by simp)))
  obtain ⟨A, c, rfl, -, -⟩ := hrt.form
  obtain ⟨r0, rz⟩ := one_cell_par hr0
  have hw1 : w.heap.size < w1.heap.size := by omega
  have HR0 := Lib.hid hr0
  clear hrt hb1 hs1 cTok hr0
  by_cases he : te = 0
  · subst he
    have HX := Lib.hid (show Po.parse T = if 30 < Po.depth tl then ([], 2) else treeEnd (Po.tree tl) by rw [hP.out, HK.out]; simp)
    have cDep := pa_depth (.slice A tl.length c) tl w1 HR.out (by have := HOK.out.2; omega)
    have cTree := pa_tree (.slice A tl.length c) tl
    by_cases hd : 30 < Po.depth tl
    · have HY := Lib.hid (show Po.parse T = ([], 2) by rw [HX.out, if_pos hd])
      go_upto_region 4 with fail
      go_wp2_with fail
      refine cDep.mono ?_
      rintro e w2 ⟨rfl, hb2⟩
      have hr2 := (hb2.block w.heap.size hw1).trans HR0.out
      obtain ⟨q0, qz⟩ := one_cell_par hr2
      have HR2 := Lib.hid hr2
      have HB2 := Lib.hid (HB1.out.trans (hb2.mono (Nat.le_of_lt hw1)))
      clear hb2 hr2 cDep cTree
      go_wp2_with fail
      rw [← hS]
      exact parse_end rfl rfl rfl HB2.out HR2.out HY.out (rnds_nil _ _ _) .nil
    · have HY := Lib.hid (show Po.parse T = treeEnd (Po.tree tl) by rw [HX.out, if_neg hd])
      go_upto_region 4 with fail
      go_wp2_with fail
      refine cDep.mono ?_
      rintro e w2 ⟨rfl, hb2⟩
      have hr2 := (hb2.block w.heap.size hw1).trans HR0.out
      have HB2 := Lib.hid (HB1.out.trans (hb2.mono (Nat.le_of_lt hw1)))
      have hw2 : w.heap.size < w2.heap.size := Nat.lt_of_lt_of_le hw1 hb2.size
      have ct := cTree w2 ((HR.out.below hb2).more hb2.size) HOK.out.1 (by have := HOK.out.2; omega)
      have HR2 := Lib.hid hr2
      clear hb2 hr2 cDep cTree
      go_wp2_with fail
      refine ct.mono ?_
      intro e w3 hn
      clear ct
      cases ht : Po.tree tl with
      | none =>
        rw [ht] at hn
        obtain ⟨A3, n3, c3, rfl, hb3⟩ := hn
        have HZ := Lib.hid (show Po.parse T = ([], 3) by rw [HY.out, ht]; rfl)
        have hr3 := (hb3.block w.heap.size hw2).trans HR2.out
        obtain ⟨q0, qz⟩ := one_cell_par hr3
        have HR3 := Lib.hid hr3
        have HB3 := Lib.hid (HB2.out.trans (hb3.mono (Nat.le_of_lt hw2)))
        clear hb3 hr3 ht
        go_wp2_with fail
        rw [← hS]
        exact parse_end rfl rfl rfl HB3.out HR3.out HZ.out (rnds_nil _ _ _) .nil
      | some o =>
        rw [ht] at hn
        obtain ⟨v3, rfl, hnd, hok, hb3⟩ := hn
        obtain ⟨A3, c3, rfl, -, -⟩ := hnd.form
        have HN := Lib.hid (And.intro hnd hok)
        have hr3 := (hb3.block w.heap.size hw2).trans HR2.out
        obtain ⟨q0, qz⟩ := one_cell_par hr3
        have HR3 := Lib.hid hr3
        have HB3 := Lib.hid (HB2.out.trans (hb3.mono (Nat.le_of_lt hw2)))
        by_cases h4 : 400 < o.length
        · have HZ := Lib.hid (show Po.parse T = ([], 2) by rw [HY.out, ht, treeEnd, if_pos h4])
          have h4' : (400 : Int) < o.length := by omega
          clear hb3 hr3 ht hnd hok h4
          go_wp2_with fail
          rw [← hS]
          exact parse_end rfl rfl rfl HB3.out HR3.out HZ.out (rnds_nil _ _ _) .nil
        · have HZ := Lib.hid (show Po.parse T = (o, 0) by rw [HY.out, ht, treeEnd, if_neg h4])
          have h4' : ¬ (400 : Int) < o.length := by omega
          clear hb3 hr3 ht hnd hok h4
          go_wp2_with fail
          rw [← hS]
          exact parse_end rfl rfl rfl HB3.out HR3.out HZ.out (HN.out.1.more (by omega) (Nat.le_refl _)) HN.out.2
  · have he' : ¬ ((te : Int) = 0) := by omega
    have HX := Lib.hid (show Po.parse T = ([], te) by rw [hP.out, HK.out]; simp [he])
    clear he
    go_wp2_with fail
    rw [← hS]
    exact parse_end rfl rfl rfl HB1.out HR0.out HX.out (rnds_nil _ _ _) .nil
end Go.Proofs.YtdeccekeknlnoaaGreatDoor

namespace Go.Proofs.YtdeccekeknlnoaaGreatDoor
open Go.RowKit Go.Shelf Go.Lib
def anyB : ByteArray := ⟨#[97, 110, 121]⟩
/-- what a grant reads of the memory -/
structure GrAt (w : World) (gc : Array Value) (bb cb eb ce ms mc sg cg : Nat) : Prop where
  size : gc.size = 20
  pol : gc.toList[17]? = some (.string anyB)
  bun : gc.toList[18]? = some (.slice (some ⟨bb, 0, none⟩) 1 cb)
  eps : gc.toList[19]? = some (.slice (some ⟨eb, 0, none⟩) 1 ce)
  lb : bb < w.heap.size
  le : eb < w.heap.size
  ls : sg < w.heap.size
  rb : w.rangeAt bb 0 [.int .i64 1, .int .i64 1, .int .i64 0, .slice (some ⟨ms, 0, none⟩) 1 mc, .slice none 0 0, .slice (some ⟨sg, 0, none⟩) 1 cg]
  re : w.cell? ⟨eb, 0, none⟩ = some (.int .i64 0)
  rs : w.cell? ⟨sg, 0, none⟩ = some (.string acc)
theorem GrAt.below {w w' : World} {gc : Array Value} {bb cb eb ce ms mc sg cg : Nat} (h : GrAt w gc bb cb eb ce ms mc sg cg) (hb : Below w.heap.size w w') : GrAt w' gc bb cb eb ce ms mc sg cg :=
  ⟨h.size, h.pol, h.bun, h.eps, Nat.lt_of_lt_of_le h.lb hb.size, Nat.lt_of_lt_of_le h.le hb.size, Nat.lt_of_lt_of_le h.ls hb.size, fun j u hu => (hb.cell (p := ⟨bb, 0 + j, none⟩) h.lb).trans (h.rb j u hu), (hb.cell (p := ⟨eb, 0, none⟩) h.le).trans h.re, (hb.cell (p := ⟨sg, 0, none⟩) h.ls).trans h.rs⟩
theorem GrAt.bund {w : World} {gc : Array Value} {bb cb eb ce ms mc sg cg : Nat} (h : GrAt w gc bb cb eb ce ms mc sg cg) :
    w.cell? ⟨bb, 0, none⟩ = some (.int .i64 1) ∧ w.cell? ⟨bb, 1, none⟩ = some (.int .i64 1) ∧ w.cell? ⟨bb, 2, none⟩ = some (.int .i64 0) ∧ w.cell? ⟨bb, 3, none⟩ = some (.slice (some ⟨ms, 0, none⟩) 1 mc) ∧ w.cell? ⟨bb, 4, none⟩ = some (.slice none 0 0) ∧ w.cell? ⟨bb, 5, none⟩ = some (.slice (some ⟨sg, 0, none⟩) 1 cg) := by
  have hh := fun j u hu => (show w.cell? ⟨bb, j, none⟩ = some u by have := h.rb j u hu; rwa [Nat.zero_add] at this)
  exact ⟨hh 0 _ rfl, hh 1 _ rfl, hh 2 _ rfl, hh 3 _ rfl, hh 4 _ rfl, hh 5 _ rfl⟩
theorem Dir1.below {w w' : World} {v : Value} {o : Option (Nat × List Nat)} (h : Dir1 w v o) (hb : Below w.heap.size w w') : Dir1 w' v o := by
  match o, h with
  | none, h => exact h
  | some (k', d'), h => exact ⟨FactAt.below h.1 hb, h.2⟩
theorem Dir1.one {w : World} {v : Value} {o : Option (Nat × List Nat)} (h : Dir1 w v o) : ∃ A n c, v = .slice A n c := by
  match o, h with
  | none, h => exact ⟨none, 0, 0, h⟩
  | some (k', d'), h =>
    obtain ⟨g, c, e, -⟩ := h.1
    exact ⟨_, _, _, e⟩
set_option maxRecDepth 1000000 in
set_option maxHeartbeats 1000000 in
theorem re_opened {Ks : List Int} {st : V8} (o : Option (Nat × List Nat)) (v : Value) (gc : Array Value) (bb cb eb ce ms mc sg cg : Nat) (w : World) (hg : Gl w) (hs : ShaG w Ks st) (hv : GlV w) (hd : Dir1 w v o) (hG : GrAt w gc bb cb eb ce ms mc sg cg) :
    Calls Tryz.prog 21 #[.agg #[v], .agg gc] w fun e w' => e = .returned (.tuple #[.bool (lists o 3 (stageD Ks st acc)), .int .i64 0]) ∧ Below w.heap.size w w' := by
  obtain ⟨S, hS⟩ : ∃ S : Ending → World → Prop, (fun e w' => e = .returned (.tuple #[.bool (lists o 3 (stageD Ks st acc)), .int .i64 0]) ∧ Below w.heap.size w w') = S := ⟨_, rfl⟩
  rw [hS]
  have HSS := Lib.hid hS
  have hmf : ∀ (fn : Fn) (first cap : Array Value) (w : World), (Instr.makeFunc fn first cap).run Tryz.prog w = .ok (.func fn first cap) w := fun _ _ _ _ => rfl
  obtain ⟨W0, hW0⟩ : ∃ X, (w.alloc (.cells #[v] 24)).alloc (.cells gc 43) = X := ⟨_, rfl⟩
  obtain ⟨b2, hb0, hs0⟩ := two_boxesC W0 hW0
  have b1 : W0.heap[w.heap.size]? = some (.cells #[v] 24 (0, 0)) := by rw [← hW0]; exact (Below.heap_alloc _ _ _ (by simp)).trans (heap_alloc_new _ _)
  obtain ⟨d, hdd⟩ : ∃ d, stageD Ks st acc = d := ⟨_, rfl⟩
  have hdl : d.length = 16 := by rw [← hdd]; exact stageD_len _ _ _
  have HK := Lib.hid (show ∀ W, Un W0 W → Below w.heap.size w W ∧ Gl W ∧ ShaG W Ks st ∧ GlV W ∧ W.heap[w.heap.size]? = some (.cells #[v] 24 (0, 0)) ∧ GrAt W gc bb cb eb ce ms mc sg cg ∧ Dir1 W v o ∧ W.cell? ⟨w.heap.size + 1, 17, none⟩ = some (.string anyB) ∧ W.cell? ⟨w.heap.size + 1, 18, none⟩ = some (.slice (some ⟨bb, 0, none⟩) 1 cb) ∧ W.cell? ⟨w.heap.size + 1, 19, none⟩ = some (.slice (some ⟨eb, 0, none⟩) 1 ce) from fun W hW => by
    have hb := hb0.trans (Below.mono hW (by omega))
    have hr := range_block ((hW.block _ (lt_of_block b2)).trans b2)
    have h17 := hr 17 _ hG.pol
    have h18 := hr 18 _ hG.bun
    have h19 := hr 19 _ hG.eps
    rw [Nat.zero_add] at h17 h18 h19
    exact ⟨hb, hg.mem hb, hs.below hb hs.size, hv.mem hb, (hW.block _ (lt_of_block b1)).trans b1, hG.below hb, hd.below hb, h17, h18, h19⟩)
  have HD := Lib.hid (And.intro hdl hdd)
  have HPA := Lib.hid (po_parse anyB W0 (HK.out W0 (un_refl _)).2.1)
  unfold ParseSays at HPA
  rw [show anyB.data.toList = [97, 110, 121] from rfl, any_parse] at HPA
  have HEV := Lib.hid any_eval
  obtain ⟨pl, hpl⟩ : ∃ pl, (Po.parse [97, 110, 121]).1 = pl := ⟨_, rfl⟩
  rw [hpl] at HPA HEV
  have HPL := Lib.hid (show pl.length ≤ 100000 by rw [← hpl]; decide)
  obtain ⟨-, -, -, -, -, -, -, k17, k18, k19⟩ := HK.out W0 (un_refl _)
  obtain ⟨T, hT⟩ : ∃ T, anyB = T := ⟨_, rfl⟩
  rw [hT] at HPA k17
  clear hS b2 hb0 hs0 b1 hg hs hv hd hG hdl hpl
  rw [hdd] at HSS
  clear hdd hT
  go_enter Tryz.func21, Tryz.ntmps21
  go_wp2_with (go_at_call 37; refine HPA.out.mono ?_; rintro e W1 ⟨pv, rfl, hpn, hpo, hb1⟩; obtain ⟨Ap, cp, hpv, -⟩ := hpn.form; obtain ⟨np, hnp⟩ : ∃ n, pl.length = n := ⟨_, rfl⟩; rw [hnp] at hpv; subst hpv; have hu1 : Un W0 W1 := hb1; obtain ⟨-, -, -, -, -, g1, -, -, k18, k19⟩ := HK.out W1 hu1; obtain ⟨u0, u1, u2, u3, u4, u5⟩ := g1.bund; have q18 := fun X => al_cell X k18; have p0 := fun X => al_cell X u0; have p1 := fun X => al_cell X u1; have p2 := fun X => al_cell X u2; have p3 := fun X => al_cell X u3; have p4 := fun X => al_cell X u4; have p5 := fun X => al_cell X u5; have HPN := Lib.hid (And.intro hpn hpo); clear hpn hpo hb1 g1)
  refine wp_loop_rounds 2 ?_
  rw [rounds_succ]
  go_wp2_with fail
  generalize hX : World.alloc (World.alloc W1 _) _ = X2
  have b2 := (two_boxesC X2 hX).1
  have hbX := (two_boxesC X2 hX).2.1
  have b1 : X2.heap[W1.heap.size]? = some (.cells #[.slice Ap np cp] 89 (0, 0)) := by rw [← hX]; exact (Below.heap_alloc _ _ _ (by simp)).trans (heap_alloc_new _ _)
  have hu2 : Un W0 X2 := un_step hu1 hbX
  obtain ⟨-, h1, h2, h3, h4, h5, h6, -⟩ := HK.out X2 hu2
  have HLG := Lib.hid (pd_logs (Ks := Ks) (st := st) 1 1 0 (some ⟨ms, 0, none⟩) 1 mc sg cg X2 h1 h2 h3 h5.rs)
  have hpn := HPN.out.1
  have hux : Un W1 X2 := hbX
  have HM := Lib.hid (show ∀ V, Un X2 V → Un W0 V ∧ V.cell? ⟨W1.heap.size, 0, none⟩ = some (.slice Ap np cp) ∧ V.cell? ⟨W1.heap.size + 1, 0, none⟩ = some (.int .i64 1) ∧ V.cell? ⟨W1.heap.size + 1, 1, none⟩ = some (.int .i64 1) ∧ V.cell? ⟨W1.heap.size + 1, 2, none⟩ = some (.int .i64 0) ∧ V.cell? ⟨W1.heap.size + 1, 3, none⟩ = some (.slice (some ⟨ms, 0, none⟩) 1 mc) ∧ RNds V W0.heap.size V.heap.size (.slice Ap np cp) pl from fun V hV => by
    have hr := range_block ((hV.block _ (lt_of_block b2)).trans b2)
    have r0 := hr 0 _ rfl
    have r1 := hr 1 _ rfl
    have r2 := hr 2 _ rfl
    have r3 := hr 3 _ rfl
    simp only [Nat.zero_add] at r0 r1 r2 r3
    exact ⟨un_step hu2 hV, (one_cell ((hV.block _ (lt_of_block b1)).trans b1)).1, r0, r1, r2, r3, (hpn.below (un_step hux hV)).more (Nat.le_refl _) (un_step hux hV).size⟩)
  obtain ⟨-, z0, -⟩ := HM.out X2 (un_refl _)
  rw [HD.out.2] at HLG
  have y5 := range_block b2 5 (.slice (some ⟨sg, 0, none⟩) 1 cg) rfl
  have y4 := range_block b2 4 (.slice none 0 0) rfl
  obtain ⟨-, -, y0, y1, y2, y3, -⟩ := HM.out X2 (un_refl _)
  rw [Nat.zero_add] at y4 y5
  clear hX b2 hbX b1 hu2 h1 h2 h3 h4 h5 h6 hpn hux z0 p0 p1 p2 p3 p4 p5 q18 k18 k19 u0 u1 u2 u3 u4 u5 k17
  go_step3
  go_wp2_with (go_at_call 39; refine HLG.out.mono ?_; rintro e W3 ⟨lv, rfl, hlv, hb3⟩; obtain ⟨lg, lc, pb, x, rfl, hlg, hlx, hlog⟩ := hlv; have hu3 : Un X2 W3 := hb3; have HLOG := Lib.hid hlog; clear hb3 hlog)
  go_step3
  go_wp2_with fail
  refine wp_loop_rounds 2 ?_
  rw [rounds_succ]
  obtain ⟨hu03, z0, y0, y1, y2, y3, hrn⟩ := HM.out W3 hu3
  obtain ⟨-, -, -, -, hdb, -, hd3, -, -, k19⟩ := HK.out W3 hu03
  have HCT := Lib.hid (re_contains o x d HD.out.1 pb w.heap.size v W3 (lt_of_block hdb) (one_cell hdb).1 hd3 HLOG.out)
  have HW3 := Lib.hid (And.intro hu3 hu03)
  clear hu03 hrn hdb hd3 z0 y0 y1 y2 y3 y4 y5 k19
  cases hbo : lists o 3 d
  · rw [hbo] at HCT HSS
    go_wp2_with (go_at_call 40; refine HCT.out.mono ?_; rintro e W4 ⟨rfl, hb4⟩)
    rw [rounds_succ]
    go_wp2_with fail
    rw [Exit.noGoto_normal]
    go_wp2_with fail
    rw [rounds_succ]
    go_wp2_with fail
    rw [← HSS.out]
    exact ⟨rfl, (HK.out W4 (un_step HW3.out.2 hb4)).1⟩
  · rw [hbo] at HCT HSS
    have HE1 := Lib.hid (show ∀ V, Un W3 V → Un X2 V ∧ V.cell? ⟨w.heap.size + 1, 19, none⟩ = some (.slice (some ⟨eb, 0, none⟩) 1 ce) ∧ V.cell? ⟨eb, 0, none⟩ = some (.int .i64 0) from fun V hV => by
      have hu := un_step HW3.out.1 hV
      have h0 := un_step HW3.out.2 hV
      obtain ⟨-, -, -, -, -, g1, -, -, -, k19⟩ := HK.out V h0
      exact ⟨hu, k19, g1.re⟩)
    go_wp2_with (go_at_call 40; refine HCT.out.mono ?_; rintro e W4 ⟨rfl, hb4⟩; have hu4 : Un W3 W4 := hb4; obtain ⟨hx4, k19, ke⟩ := HE1.out W4 hu4; clear hb4)
    refine wp_loop_rounds 2 ?_
    rw [rounds_succ]
    go_upto_region 19 with fail
    obtain ⟨h04, z0, y0, y1, y2, y3, hrn⟩ := HM.out W4 hx4
    have HFT := Lib.hid (show ∀ V, Un W4 V → Calls Tryz.prog 42 #[.agg #[.int .i64 1, .int .i64 1, .int .i64 0, .slice (some ⟨ms, 0, none⟩) 1 mc], .slice (some ⟨x.1, 0, none⟩) 1 x.2, .int .i64 0] V (FactsSay 1 0 d V) from fun V hV => re_facts 1 1 0 0 (some ⟨ms, 0, none⟩) 1 mc x d HD.out.1 pb V (HLOG.out.keep ((un_step hu4 hV).block _ HLOG.out.1) (un_step hu4 hV).size))
    have HVL := Lib.hid (show ∀ V vf, Un W4 V → RFacts V V.heap.size vf ⟨1, 0, [d], [[]]⟩ → Calls Tryz.prog 41 #[.agg #[.slice Ap np cp], vf] V fun e w' => e = .returned (.int .i64 1) ∧ Below V.heap.size V w' from fun V vf hV hf => by
      obtain ⟨h0V, -, -, -, -, -, hrV⟩ := HM.out V (un_step hx4 hV)
      have h := po_eval (.slice Ap np cp) vf pl ⟨1, 0, [d], [[]]⟩ V W0.heap.size (HK.out V h0V).2.1 hrV HPN.out.2 HPL.out hf (by
        intro r hr
        simp only [List.mem_singleton] at hr
        subst hr
        intro y hy
        cases hy)
      rw [HEV.out] at h
      exact h)
    have HX4 := Lib.hid (And.intro h04 hx4)
    have HS4 := Lib.hid (show ∀ V, Un W4 V → V.cell? ⟨W1.heap.size, 0, none⟩ = some (.slice Ap np cp) ∧ V.cell? ⟨W1.heap.size + 1, 0, none⟩ = some (.int .i64 1) ∧ V.cell? ⟨W1.heap.size + 1, 1, none⟩ = some (.int .i64 1) ∧ V.cell? ⟨W1.heap.size + 1, 2, none⟩ = some (.int .i64 0) ∧ V.cell? ⟨W1.heap.size + 1, 3, none⟩ = some (.slice (some ⟨ms, 0, none⟩) 1 mc) from fun V hV => by
      obtain ⟨-, a, b, c, d, e, -⟩ := HM.out V (un_step hx4 hV)
      exact ⟨a, b, c, d, e⟩)
    have hs0 : Un W4 W4.drew := un_dr (un_refl W4)
    obtain ⟨s0, s1, s2, s3, s4⟩ := HS4.out W4.drew hs0
    clear hrn h04 hx4
    go_region_held3 (fun w' => Un W4 w' ∧ w'.cell? ⟨W1.heap.size, 0, none⟩ = some (.slice Ap np cp) ∧ w'.cell? ⟨W1.heap.size + 1, 0, none⟩ = some (.int .i64 1) ∧ w'.cell? ⟨W1.heap.size + 1, 1, none⟩ = some (.int .i64 1) ∧ w'.cell? ⟨W1.heap.size + 1, 2, none⟩ = some (.int .i64 0) ∧ w'.cell? ⟨W1.heap.size + 1, 3, none⟩ = some (.slice (some ⟨ms, 0, none⟩) 1 mc)) ((go_split_ands; first | assumption | go_keep)) (first
      | (go_at_call 42; go_split_ands; (with_reducible refine (HFT.out _ (by assumption)).mono ?_); rintro e W5 ⟨vf, rfl, hf5, hb5⟩; (have hu5 : Un W4 W5 := un_step (by assumption) hb5); obtain ⟨t0, t1, t2, t3, t4⟩ := HS4.out W5 hu5; obtain ⟨vs, vp, rfl, hq1, hq2⟩ := id hf5)
      | (go_at_call 41; go_split_ands; (with_reducible refine (HVL.out _ _ (by assumption) (by assumption)).mono ?_); rintro e W6 ⟨rfl, hb6⟩; (have hu6 : Un W4 W6 := un_step (by assumption) hb6); obtain ⟨t0, t1, t2, t3, t4⟩ := HS4.out W6 hu6))
    go_wp2_with fail
    rw [Exit.noGoto_normal]
    go_wp2_with fail
    rw [rounds_succ]
    go_wp2_with fail
    rw [← HSS.out]
    exact ⟨rfl, (HK.out _ (un_step (HM.out W4 HX4.out.2).1 hu6)).1⟩
end Go.Proofs.YtdeccekeknlnoaaGreatDoor
