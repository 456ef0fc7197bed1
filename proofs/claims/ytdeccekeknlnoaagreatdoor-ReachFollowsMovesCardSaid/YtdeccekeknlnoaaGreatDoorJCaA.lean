/- Chapter 38: package cases: what its iterator hands over. | Chapter 38: package cases: Of. | Chapter 38: package cases: Of, walked. | Chapter 38: package predict: the accepting cases of "accept;". -/
import Derived.Test.YtdeccekeknlnoaaGreatDoorJRfO
namespace Go.Proofs.YtdeccekeknlnoaaGreatDoor
open Go.RowKit Go.Shelf
attribute [local go_sem] Oper.semAt_some
set_option maxRecDepth 1000000 in
set_option maxHeartbeats 600000 in
theorem ca_count (x y z : Value) (w : World) : Calls Tryz.prog 199 #[.agg #[.slice none 0 0, x, y, z]] w fun e w' => e = .returned (.int .i64 1) ∧ w' = w.alloc (.cells #[.slice none 0 0, x, y, z] 217) := by
  go_enter Tryz.func199, Tryz.ntmps199
  go_wp2_with fail
  refine wp_loop_rounds 1 ?_
  rw [rounds_succ]
  go_wp2_with fail
  go_ret
  exact ⟨rfl, rfl⟩
set_option maxRecDepth 1000000 in
set_option maxHeartbeats 600000 in
theorem ca_back (w : World) : Calls Tryz.prog 200 #[.slice none 0 0] w fun e w' => e = .returned (.func (.func 233) #[] #[.pointer (some ⟨w.heap.size, 0, none⟩)]) ∧ w' = w.alloc (.cells #[.slice none 0 0] 214) := by
  have hmf : ∀ (fn : Fn) (first cap : Array Value) (w : World), (Instr.makeFunc fn first cap).run Tryz.prog w = .ok (.func fn first cap) w := fun _ _ _ _ => rfl
  go_enter Tryz.func200, Tryz.ntmps200
  go_wp2_with fail
  go_ret
  exact ⟨rfl, rfl⟩
set_option maxRecDepth 1000000 in
set_option maxHeartbeats 600000 in
theorem ca_none (Bs : Nat) (w : World) (h : w.heap[Bs]? = some (.cells #[.slice none 0 0] 214 (0, 0))) (hs : Bs < w.heap.size) :
    SeqStopsK Fence.wide 2 Tryz.prog 233 #[.pointer (some ⟨Bs, 0, none⟩)] (fun _ : Empty => #[]) (fun _ _ => True) (fun ys => ys = []) (fun _ => False) 0 w := fun l J Jx W hW hJ _ hY h0 => by
  have q1 := (one_cell' ((hW.block Bs hs).trans h)).1
  refine callsIn_of_wp Tryz.func233 rfl trivial ?_ rfl
  simp only [Tryz.ntmps233, List.append_toArray, List.cons_append, List.nil_append, List.size_toArray, List.length_cons, List.length_nil, Nat.reduceAdd, Nat.reduceSub, Array.replicate_succ, Array.replicate_zero, List.push_toArray, List.append_toArray, List.nil_append, List.cons_append]
  gi_wp2
  refine wpIn_loop_rounds 1 ?_
  rw [roundsIn_succ]
  gi_wp2
  go_end0
  exact ⟨⟨_, rfl⟩, .inl ⟨_, rfl, h0⟩⟩
theorem five_b {w : World} {o1 o2 o3 o4 o5 : Obj} : ∀ W, ((((w.alloc o1).alloc o2).alloc o3).alloc o4).alloc o5 = W → W.heap[w.heap.size + 1 + 1]? = some o3 ∧ W.heap[w.heap.size + 1 + 1 + 1 + 1]? = some o5 ∧ Below w.heap.size w W ∧ W.heap.size = w.heap.size + 5 := by
  rintro W rfl
  refine ⟨?_, ?_, ?_, by simp⟩
  · refine (Below.heap_alloc _ _ _ (by simp)).trans ((Below.heap_alloc _ _ _ (by simp)).trans ?_)
    have := heap_alloc_new ((w.alloc o1).alloc o2) o3
    rwa [World.size_alloc, World.size_alloc] at this
  · have := heap_alloc_new ((((w.alloc o1).alloc o2).alloc o3).alloc o4) o5
    rwa [World.size_alloc, World.size_alloc, World.size_alloc, World.size_alloc] at this
  · exact (((((Below.refl _ _).alloc (Nat.le_refl _) _).alloc (by simp) _).alloc (by simp; omega) _).alloc (by simp; omega) _).alloc (by simp; omega) _
/-- when the iterator hands over its element -/
def CaPre (W : World) (_ : Nat) (A : World) : Prop := Below W.heap.size W A
def CaKp (W A B : World) : Prop := A.heap.size ≤ B.heap.size ∧ ∀ k, W.heap.size ≤ k → k < A.heap.size → B.heap[k]? = A.heap[k]?
def CaFin (W A B W' : World) : Prop := W'.os = B.os ∧ W'.tape = B.tape ∧ W'.output = B.output ∧ B.heap.size ≤ W'.heap.size ∧ ∀ k, k < W.heap.size ∨ A.heap.size ≤ k → W'.heap[k]? = B.heap[k]?
set_option maxRecDepth 1000000 in
set_option maxHeartbeats 1000000 in
theorem ca_once (pb g c h c' : Nat) (w : World) (hp : PBox w pb g c h c') : Once Tryz.prog 198 #[.pointer (some ⟨pb, 0, none⟩)] (fun b : Nat => #[.int .i64 0, .slice (some ⟨b, 0, none⟩) 0 0]) CaPre CaKp CaFin w := fun l W R hW hY => by
  have hp1 := hp.below hW
  obtain ⟨m0, m1, m2, m3, -⟩ := hp1.nodes
  have HP := Lib.hid hp1
  have HY := Lib.hid hY
  have hms : ∀ w, (Instr.makeSlice 41 (.int .i64 0) (.int .i64 0)).run Tryz.prog w = .ok (.slice (some ⟨w.heap.size, 0, none⟩) 0 0) (w.alloc (.cells #[] 3)) := fun w => by kernel_rfl
  clear hp hp1 hY
  refine callsIn_of_wp_marks Tryz.func198 rfl trivial ?_ rfl
  simp only [Tryz.ntmps198, List.append_toArray, List.cons_append, List.nil_append, List.size_toArray, List.length_cons, List.length_nil, Nat.reduceAdd, Nat.reduceSub, Array.replicate_succ, Array.replicate_zero, List.push_toArray, List.append_toArray, List.nil_append, List.cons_append]
  refine wpIn_wide.2 ?_
  go_wp2_with (go_at_call 199; refine (ca_count _ _ _ _).mono ?_; rintro e W1 ⟨rfl, hq⟩; obtain ⟨rfl⟩ := hq.symm)
  refine wp_loop_rounds 2 ?_
  rw [rounds_succ]
  have k1 := fun X => al_cell X m0
  have k4 := fun X Y Z U => al_cell U (al_cell Z (al_cell Y (al_cell X m0)))
  go_wp2_with (go_at_call 200; refine (ca_back _).mono ?_; rintro e W2 ⟨rfl, hq⟩)
  subst hq
  generalize hX : World.alloc (World.alloc _ _) (Obj.cells _ 214) = X0
  obtain ⟨b3, b5, hbX, hsX⟩ := five_b X0 hX
  have H0 := Lib.hid (And.intro b3 (And.intro hbX hsX))
  have hBs : W.heap.size + 1 + 1 + 1 + 1 < X0.heap.size := by omega
  clear hX m0 m1 m2 m3 k1 k4 b3 hbX hsX
  refine (wpIn_wide (n := 3)).1 ?_
  refine wpIn_rangeFunc_ownF (F := Fence.wide) rfl (by decide) (gf := 233) (lb := #[.pointer (some ⟨W.heap.size + 1 + 1 + 1 + 1, 0, none⟩)]) rfl trivial (enters_of Tryz.func233 (by kernel_rfl) rfl)
    (ca_none _ X0 b5 hBs) (fun _ _ => trivial) (fun _ _ _ _ _ _ _ _ => trivial) (Below.refl _ _) (fun x => nomatch x) (fun _ X => Below X0.heap.size X0 X) (fun _ _ _ => False) (ownFrom_below (Nat.le_refl _) (Nat.le_refl _)) (fun _ _ _ _ _ hs _ _ => hs) (Below.refl _ _) (fun x => nomatch x) ?assign ?body ?done ?stop
  case assign => exact fun _ x => nomatch x
  case body => exact fun _ _ x => nomatch x
  case stop => exact fun _ _ _ _ _ _ h => h.elim
  case done =>
    rintro D xs X hD - hI hk
    have hpre : CaPre W (W.heap.size + 1) X := H0.out.2.1.trans (hI.mono (by have := H0.out.2.2; omega))
    obtain ⟨fn, tmps, assign, body, hy, hR⟩ := HY.out _ X hpre
    obtain ⟨x5, -⟩ := one_cell ((hI.block _ (by have := H0.out.2.2; omega)).trans H0.out.1)
    have HK := Lib.hid (And.intro hpre (And.intro hk (And.intro hD H0.out.2.2)))
    clear hI hk hD hpre
    go_upto_region 12 with fail
    refine (wpIn_wide (n := 2)).1 ?_
    gi_wp2
    refine hR.mono ?_
    rintro e X2 ⟨rfl, hkp, hr⟩
    gi_wp2
    go_wp2_with fail
    rw [rounds_succ]
    go_wp2_with fail
    obtain ⟨h1, h2, h3, h4⟩ := HK.out
    have hDl : D < X.heap.size := (Array.getElem?_eq_some_iff.1 h2).1
    have q2 := (hkp.2 D (by omega) hDl).trans h2
    refine ⟨by simp, .inl ⟨_, _, rfl, run_takeDeferred q2, ?_⟩⟩
    exact ⟨_, results_none rfl _ _ _, ⟨_, rfl⟩, _, X, X2, h1, hr, rfl, rfl, rfl, by simp, fun k hk2 => World.putObj_heap_other (by omega)⟩
end Go.Proofs.YtdeccekeknlnoaaGreatDoor

namespace Go.Proofs.YtdeccekeknlnoaaGreatDoor
open Go.RowKit Go.Shelf
attribute [local go_sem] Oper.semAt_some
set_option maxRecDepth 1000000 in
set_option maxHeartbeats 600000 in
theorem ca_index0 (f : Value) (w : World) : Calls Tryz.prog 237 #[.slice none 0 0, f] w fun e w' => e = .returned (.int .i64 (-1)) ∧ w' = w := by
  go_enter Tryz.func237, Tryz.ntmps237
  go_wp2_with fail
  refine wp_loop_rounds 1 ?_
  rw [rounds_succ]
  go_wp2_with fail
  go_ret
  exact ⟨rfl, rfl⟩
set_option maxRecDepth 1000000 in
set_option maxHeartbeats 600000 in
theorem ca_contains0 (f : Value) (w : World) : Calls Tryz.prog 205 #[.slice none 0 0, f] w fun e w' => e = .returned (.bool false) ∧ w' = w := by
  go_enter Tryz.func205, Tryz.ntmps205
  go_wp2_with (go_at_call 237; refine (ca_index0 _ _).mono ?_; rintro e w' ⟨rfl, rfl⟩)
  go_ret
  exact ⟨rfl, rfl⟩
set_option maxRecDepth 1000000 in
set_option maxHeartbeats 600000 in
theorem ca_lacks (f : Value) (w : World) : Calls Tryz.prog 165 #[.slice none 0 0, f] w fun e w' => e = .returned (.bool true) ∧ w' = w := by
  go_enter Tryz.func165, Tryz.ntmps165
  go_wp2_with (go_at_call 205; refine (ca_contains0 _ _).mono ?_; rintro e w' ⟨rfl, rfl⟩)
  go_ret
  exact ⟨rfl, rfl⟩
set_option maxRecDepth 1000000 in
set_option maxHeartbeats 600000 in
theorem ca_comb (x y z u : Value) (w : World) : Calls Tryz.prog 163 #[.agg #[x, y, z, u]] w fun e w' => e = .returned (.func (.func 198) #[] #[.pointer (some ⟨w.heap.size, 0, none⟩)]) ∧ w' = w.alloc (.cells #[x, y, z, u] 217) := by
  have hmf : ∀ (fn : Fn) (first cap : Array Value) (w : World), (Instr.makeFunc fn first cap).run Tryz.prog w = .ok (.func fn first cap) w := fun _ _ _ _ => rfl
  go_enter Tryz.func163, Tryz.ntmps163
  go_wp2_with fail
  go_ret
  exact ⟨rfl, rfl⟩
/-- what the body leaves -/
def CaB (s6 : Nat) (x : Nat) (X Y : World) : Prop := Ate s6 X Y ∧ ∃ g c pb, Y.heap[s6]? = some (.cells #[.slice (some ⟨g, 0, none⟩) 1 c] 220 (0, 0)) ∧ X.heap.size ≤ g ∧ g < Y.heap.size ∧ Y.rangeAt g 0 [.slice (some ⟨x, 0, none⟩) 0 0, .slice (some ⟨pb, 0, none⟩) 0 0, .slice none 0 0, .int .i64 0, .int .i64 0]
theorem begun_block {w W A X : World} {x : Nat} (h : Begun CaPre w x W A X) : (∀ k, k < w.heap.size → X.heap[k]? = w.heap[k]?) ∧ w.heap.size + 2 ≤ X.heap.size ∧ X.os = w.os ∧ X.tape = w.tape ∧ X.output = w.output := by
  obtain ⟨o, ho, hW, hs, hP, rfl, hlp⟩ := h
  have hP' : Below W.heap.size W A := hP
  refine ⟨fun k hk => ?_, ?_, hP'.os.trans hW.os, hP'.tape.trans hW.tape, hP'.output.trans hW.output⟩
  · rw [World.putObj_heap_other (by omega), hP'.block k (by omega)]
    exact hW.block k hk
  · have := hP'.size
    simp
    omega
theorem ended_block {w Z : World} {s6 : Nat} (hs6 : s6 < w.heap.size) (h : EndedR CaPre CaFin (CaB s6) w Z) :
    (∀ k, k < w.heap.size → k ≠ s6 → Z.heap[k]? = w.heap[k]?) ∧ w.heap.size ≤ Z.heap.size ∧ Z.os = w.os ∧ Z.tape = w.tape ∧ Z.output = w.output ∧
    ∃ x g c pb, Z.heap[s6]? = some (.cells #[.slice (some ⟨g, 0, none⟩) 1 c] 220 (0, 0)) ∧ w.heap.size + 2 ≤ g ∧ g < Z.heap.size ∧ Z.rangeAt g 0 [.slice (some ⟨x, 0, none⟩) 0 0, .slice (some ⟨pb, 0, none⟩) 0 0, .slice none 0 0, .int .i64 0, .int .i64 0] := by
  obtain ⟨x, W, A, X, Y, W', o1, o2, hbg, ⟨hA, g, c, pb, h1, h2, h3, h4⟩, ⟨f1, f2, f3, f4, f5⟩, rfl⟩ := h
  obtain ⟨b1, b2, b3, b4, b5⟩ := begun_block hbg
  obtain ⟨o, ho, hW, hs, hP, rfl, hlp⟩ := hbg
  have hP' : Below W.heap.size W A := hP
  simp only [World.putObj_size] at f4 f5 b2 h2
  have hsz := hA.size
  simp only [World.putObj_size] at hsz
  have hz : ∀ k, (k < W.heap.size ∨ A.heap.size ≤ k) → k ≠ w.heap.size + 1 → (W'.putObj (w.heap.size + 1) o2).heap[k]? = Y.heap[k]? := fun k hk2 hk3 => by
    rw [World.putObj_heap_other hk3, f5 k hk2, World.putObj_heap_other hk3]
  have hPs := hP'.size
  refine ⟨fun k hk hk6 => ?_, ?_, f1.trans (hA.os.trans b3), f2.trans (hA.tape.trans b4), f3.trans (hA.output.trans b5), x, g, c, pb, ?_, ?_, ?_, ?_⟩
  · rw [hz k (.inl (by omega)) (by omega), hA.block k (by simp; omega) hk6]
    exact b1 k hk
  · simp; omega
  · rw [hz s6 (.inl (by omega)) (by omega)]
    exact h1
  · omega
  · simp; omega
  · intro j u hu
    exact (World.cell?_of_block (a := ⟨g, 0 + j, none⟩) (hz g (.inr h2) (by omega))).trans (h4 j u hu)
end Go.Proofs.YtdeccekeknlnoaaGreatDoor

namespace Go.Proofs.YtdeccekeknlnoaaGreatDoor
open Go.RowKit Go.Shelf
attribute [local go_sem] Oper.semAt_some
/-- the one case of "accept;" -/
def CasesV (w : World) (v : Value) : Prop := ∃ g c x pb, v = .slice (some ⟨g, 0, none⟩) 1 c ∧ g < w.heap.size ∧ w.rangeAt g 0 [.slice (some ⟨x, 0, none⟩) 0 0, .slice (some ⟨pb, 0, none⟩) 0 0, .slice none 0 0, .int .i64 0, .int .i64 0]
theorem CasesV.below {w w' : World} {v : Value} (h : CasesV w v) (hb : Below w.heap.size w w') : CasesV w' v := by
  obtain ⟨g, c, x, pb, h1, h2, h3⟩ := h
  exact ⟨g, c, x, pb, h1, Nat.lt_of_lt_of_le h2 hb.size, fun j u hu => (hb.cell (p := ⟨g, 0 + j, none⟩) h2).trans (h3 j u hu)⟩
def CasesSaid (w : World) (e : Ending) (w' : World) : Prop := ∃ v, e = .returned (.tuple #[v, .int .i64 0]) ∧ CasesV w' v ∧ Below w.heap.size w w'
theorem three_b {w : World} {o1 o2 o3 : Obj} : ∀ W, ((w.alloc o1).alloc o2).alloc o3 = W → W.heap[w.heap.size]? = some o1 ∧ W.heap[w.heap.size + 1]? = some o2 ∧ W.heap[w.heap.size + 1 + 1]? = some o3 ∧ Below w.heap.size w W ∧ W.heap.size = w.heap.size + 3 := by
  rintro W rfl
  refine ⟨?_, ?_, ?_, ?_, by simp⟩
  · exact (Below.heap_alloc _ _ _ (by simp; omega)).trans ((Below.heap_alloc _ _ _ (by simp)).trans (heap_alloc_new _ _))
  · refine (Below.heap_alloc _ _ _ (by simp)).trans ?_
    have := heap_alloc_new (w.alloc o1) o2
    rwa [World.size_alloc] at this
  · have := heap_alloc_new ((w.alloc o1).alloc o2) o3
    rwa [World.size_alloc, World.size_alloc] at this
  · exact (((Below.refl _ _).alloc (Nat.le_refl _) _).alloc (by simp) _).alloc (by simp; omega) _
theorem frz3 {w : World} {b : Nat} {a : Value} {t : TypeId} (h : w.heap[b]? = some (.cells #[a] t (0, 0))) (o1 o2 o3 : Obj) : (((w.alloc o1).alloc o2).alloc o3).frozen? ⟨b, 0, none⟩ = false :=
  (one_cell ((Below.heap_alloc _ o3 _ (by have := lt_of_block h; simp; omega)).trans ((Below.heap_alloc _ o2 _ (by have := lt_of_block h; simp; omega)).trans ((Below.heap_alloc _ o1 _ (lt_of_block h)).trans h)))).2
theorem cab_done {s6 x pb cap : Nat} {X Xr : World} {o1 o2 : Obj} {r : Array Value} (hs6 : X.heap[s6]? = some (.cells #[.slice none 0 0] 220 (0, 0))) (hbr : Below X.heap.size X Xr) :
    CaB s6 x X ((((Xr.alloc o1).alloc o2).alloc (.cells (#[.slice (some ⟨x, 0, none⟩) 0 0, .slice (some ⟨pb, 0, none⟩) 0 0, .slice none 0 0, .int .i64 0, .int .i64 0] ++ r) 226)).drew.setCell ⟨s6, 0, none⟩ (.slice (some ⟨Xr.heap.size + 1 + 1, 0, none⟩) 1 cap)) := by
  have hlt := lt_of_block hs6
  have hsz := hbr.size
  obtain ⟨Z, hZ⟩ : ∃ Z, (((Xr.alloc o1).alloc o2).alloc (.cells (#[.slice (some ⟨x, 0, none⟩) 0 0, .slice (some ⟨pb, 0, none⟩) 0 0, .slice none 0 0, .int .i64 0, .int .i64 0] ++ r) 226)) = Z := ⟨_, rfl⟩
  obtain ⟨b1, b2, b3, hb, hs⟩ := three_b Z hZ
  rw [hZ]
  have h6 : Z.drew.heap[s6]? = some (.cells #[.slice none 0 0] 220 (0, 0)) := (hb.block _ (by omega)).trans ((hbr.block _ hlt).trans hs6)
  refine ⟨⟨hb.os.trans hbr.os, hb.tape.trans hbr.tape, hb.output.trans hbr.output, by simp [World.setCell]; omega, fun k hk hk6 => ?_⟩, Xr.heap.size + 1 + 1, cap, pb, set_one h6, by omega, by simp [World.setCell]; omega, fun j u hu => ?_⟩
  · rw [set_other _ _ _ _ _ hk6]
    exact (hb.block k (by omega)).trans (hbr.block k hk)
  · refine (World.cell?_of_block (a := ⟨Xr.heap.size + 1 + 1, 0 + j, none⟩) (w := Z) (set_other _ _ _ _ _ (show Xr.heap.size + 1 + 1 ≠ s6 by omega))).trans ?_
    have hj : j < 5 := (List.getElem?_eq_some_iff.1 hu).1
    simp only [World.cell?, b3, Nat.zero_add]
    rw [Array.getElem?_append_left (by simpa using hj)]
    simpa using hu
set_option maxRecDepth 1000000 in
set_option maxHeartbeats 2000000 in
theorem ca_of (v : Value) (w : World) (hp : ProgV w v) (hv : GlV w) : Calls Tryz.prog 121 #[v] w (CasesSaid w) := by
  obtain ⟨S, hS⟩ : ∃ S : Ending → World → Prop, CasesSaid w = S := ⟨_, rfl⟩
  rw [hS]
  have HSS := Lib.hid hS
  have hmf : ∀ (fn : Fn) (first cap : Array Value) (w : World), (Instr.makeFunc fn first cap).run Tryz.prog w = .ok (.func fn first cap) w := fun _ _ _ _ => rfl
  obtain ⟨g, c, h, c', rfl, hg, hh, hb⟩ := hp.box2
  obtain ⟨W0, hW0⟩ : ∃ X, ((w.alloc (.cells #[.slice none 0 0, .slice (some ⟨g, 0, none⟩) 2 c, .int .i64 1, .int .i64 0] 217)).alloc (.cells #[.slice none 0 0] 220)).alloc (.cells #[.int .i64 0] 31) = X := ⟨_, rfl⟩
  obtain ⟨a0, a1, a2, hb0, hs0⟩ := three_b W0 hW0
  have hpb : PBox W0 w.heap.size g c h c' := by
    have h1 := Below.new (w := w.alloc (.cells #[.slice none 0 0, .slice (some ⟨g, 0, none⟩) 2 c, .int .i64 1, .int .i64 0] 217)) (.cells #[.slice none 0 0] 220)
    have h2 := hb.below h1
    rw [← hW0]
    exact h2.below (Below.new _)
  have hp0 := hp.below hb0
  have HK := Lib.hid (show ∀ W, Un W0 W → Below w.heap.size w W ∧ ProgV W (.agg #[.slice none 0 0, .slice (some ⟨g, 0, none⟩) 2 c, .int .i64 1, .int .i64 0]) ∧ PBox W w.heap.size g c h c' ∧ W.heap[w.heap.size + 1]? = some (.cells #[.slice none 0 0] 220 (0, 0)) ∧ W.heap[w.heap.size + 1 + 1]? = some (.cells #[.int .i64 0] 31 (0, 0)) ∧ GlV W from fun W hW => by
    have hb := hb0.trans (Below.mono hW (by omega))
    exact ⟨hb, hp0.below hW, hpb.below hW, (hW.block _ (lt_of_block a1)).trans a1, (hW.block _ (lt_of_block a2)).trans a2, hv.mem hb⟩)
  have HS0 := Lib.hid hs0
  obtain ⟨m0, m1, m2, m3, -⟩ := hpb.nodes
  clear hS hp hv hb hg hh a0 a1 a2 hb0 hs0 hpb hp0
  refine (callsIn_wide (n := 3)).1 (callsIn_of_wp_marks Tryz.func121 rfl trivial ?_ rfl)
  simp only [Tryz.ntmps121, List.append_toArray, List.cons_append, List.nil_append, List.size_toArray, List.length_cons, List.length_nil, Nat.reduceAdd, Nat.reduceSub, Array.replicate_succ, Array.replicate_zero, List.push_toArray, List.append_toArray, List.nil_append, List.cons_append]
  refine wpIn_wide.2 ?_
  go_wp2_with (first
    | (go_at_call 162; refine (co_of _ _ (HK.out _ (un_refl _)).2.1).mono ?_; rintro e W1 ⟨cv, rfl, hcv, hb1⟩; obtain ⟨gc, cc, rfl, hgc, hrc⟩ := id hcv; have hu1 : Un W0 W1 := hb1; obtain ⟨m0, m1, m2, m3, -⟩ := (HK.out W1 hu1).2.2.1.nodes; have q0 := fun X Y => al_cell Y (al_cell X m0); have q1 := fun X Y => al_cell Y (al_cell X m1); have q2 := fun X Y => al_cell Y (al_cell X m2); have q3 := fun X Y => al_cell Y (al_cell X m3))
    | (go_at_call 163; refine (ca_comb _ _ _ _ _).mono ?_; rintro e W2 ⟨rfl, hq⟩))
  subst hq
  generalize hX : World.alloc (World.alloc (World.alloc _ _) _) _ = X0
  obtain ⟨b1, b2, b3, hbX, hsX⟩ := three_b X0 hX
  obtain ⟨k0, k1, k2, k3, k4, k5⟩ := HK.out W1 hu1
  have hpx : PBox X0 (W1.heap.size + 1 + 1) g c h c' := by
    obtain ⟨p1, p2, p3, p4, p5⟩ := k2.below hbX
    exact ⟨b3, p2, p3, p4, p5⟩
  have hu0 : Un W0 X0 := un_step hu1 hbX
  have hcx : CodeV X0 (.agg #[.slice (some ⟨gc, 0, none⟩) 2 cc, .int .i64 0, .int .i64 0]) := hcv.below hbX
  have HX := Lib.hid (And.intro b1 (And.intro b2 (And.intro hu0 (And.intro hcx (And.intro hsX hu1.size)))))
  have HS6 := Lib.hid (show W1.heap.size + 1 < X0.heap.size by omega)
  clear hX b1 b2 b3 hbX hsX k0 k1 k2 k3 k4 k5 hu0 hcx m0 m1 m2 m3 q0 q1 q2 q3 hcv hgc hrc hW0 hu1
  refine (wpIn_wide (n := 3)).1 ?_
  refine wpIn_once rfl (enters_of Tryz.func198 (by kernel_rfl) rfl) (ca_once _ g c h c' X0 hpx) (fun _ => rfl) (fun h => h) (fun hf k hk => ?fin) (CaB (W1.heap.size + 1)) (fun hbg hB => ?keep) (fun o hbg hB => ?kp) ?a1 ?assign ?body ?done
  case fin => exact hf.2.2.2.2 k (.inl hk)
  case keep =>
    have hb := begun_block hbg
    have h6 := HS6.out
    refine ⟨hB.1.size, fun k hk => hB.1.block k (by omega) (by omega)⟩
  case kp =>
    have hb := begun_block hbg
    have h6 := HS6.out
    obtain ⟨o', ho', hW, hs, hP, rfl, hlp⟩ := hbg
    have hsz := hB.1.size
    simp only [World.putObj_size] at hsz
    refine ⟨by simpa using hsz, fun k hk hk2 => ?_⟩
    rw [World.putObj_heap_other (by omega), hB.1.block k (by simpa using hk2) (by omega), World.putObj_heap_other (by omega)]
  case assign =>
    intro l x X K hK
    gi_wp2
    exact hK
  case body =>
    intro x W A X hbg
    obtain ⟨b1, b2, b3, b4, b5⟩ := begun_block hbg
    obtain ⟨h1, h2, h3, h4, h5⟩ := HX.out
    have e4 := (b1 _ (lt_of_block h1)).trans h1
    have e6 := (b1 _ (lt_of_block h2)).trans h2
    obtain ⟨x0, x1, x2, -⟩ := three_cellsC e4
    obtain ⟨x6, -⟩ := one_cell e6
    have hbx : Below X0.heap.size X0 X := ⟨b3, b4, b5, by omega, b1⟩
    have HR := Lib.hid (vm_run _ (some ⟨x, 0, none⟩) 0 X (h4.below hbx) ((HK.out X (un_step h3 hbx)).2.2.2.2.2))
    have HE := Lib.hid (And.intro e6 (And.intro b2 HS6.out))
    clear b1 b2 b3 b4 b5 h1 h2 h3 h4 h5 e4 e6 hbx hbg
    gi_wp2_with (first
      | (refine ⟨trivial, ?_⟩; gi_at_call 164; refine (CallsIn.inRound _ (callsIn_wide.2 HR.out)).mono ?_; rintro e Xr ⟨pb, rfl, hbr⟩; obtain ⟨x6, -⟩ := one_cell ((hbr.block _ (lt_of_block HE.out.1)).trans HE.out.1); have y6 := fun o => al_cell o x6; have z6 := fun o1 o2 o3 => al_cell o3 (al_cell o2 (al_cell o1 x6)); have f6 := frz3 ((hbr.block _ (lt_of_block HE.out.1)).trans HE.out.1); have HBR := Lib.hid hbr; clear hbr)
      | (refine ⟨trivial, ?_⟩; gi_at_call 165; refine (CallsIn.inRound _ (callsIn_wide.2 (ca_lacks _ _))).mono ?_; rintro e Xl ⟨rfl, hq⟩; have hq' := hq.symm; subst hq'))
    exact cab_done HE.out.1 HBR.out
  case done =>
    intro Z hE hD
    obtain ⟨e1, e2, e3, e4, e5, x, gz, cz, pz, e6, e7, e8, e9⟩ := ended_block HS6.out hE
    obtain ⟨h1, h2, h3, h4, h5, h6⟩ := HX.out
    obtain ⟨k0, k1, k2, k3, k4, k5⟩ := HK.out X0 h3
    have hs0 := HS0.out
    have r2 := (e1 _ (lt_of_block k3) (by omega)).trans k3
    have r3 := (e1 _ (lt_of_block k4) (by omega)).trans k4
    obtain ⟨y6, -⟩ := one_cell e6
    obtain ⟨y2, y2f⟩ := one_cell r2
    obtain ⟨y3, y3f⟩ := one_cell r3
    have hbz : Below w.heap.size w Z := ⟨e3.trans k0.os, e4.trans k0.tape, e5.trans k0.output, by have := k0.size; omega, fun k hk => (e1 k (by have := k0.size; omega) (by omega)).trans (k0.block k hk)⟩
    have HF := Lib.hid (And.intro e8 (And.intro e9 (And.intro hbz (And.intro r2 (And.intro r3 (And.intro hD (And.intro e7 (And.intro hs0 (And.intro h5 (And.intro h6 e2))))))))))
    clear e1 e2 e3 e4 e5 e6 e7 e8 e9 h1 h2 h3 h4 h5 h6 k0 k1 k2 k3 k4 k5 hs0 r2 r3 hbz hE hD
    go_wp2_with fail
    obtain ⟨e8, e9, hbz, r2, r3, hD, e7, hs0, h5, h6, e2⟩ := HF.out
    have t2 : ((Z.setCell ⟨w.heap.size + 1, 0, none⟩ (.slice (some ⟨gz, 0, none⟩) 1 cz)).setCell ⟨w.heap.size + 1 + 1, 0, none⟩ (.int .i64 0)).heap[w.heap.size + 1]? = some (.cells #[.slice (some ⟨gz, 0, none⟩) 1 cz] 220 (0, 0)) := (set_other _ _ _ _ _ (by omega)).trans (set_one r2)
    have t3 : ((Z.setCell ⟨w.heap.size + 1, 0, none⟩ (.slice (some ⟨gz, 0, none⟩) 1 cz)).setCell ⟨w.heap.size + 1 + 1, 0, none⟩ (.int .i64 0)).heap[w.heap.size + 1 + 1]? = some (.cells #[.int .i64 0] 31 (0, 0)) := set_one ((set_other _ _ _ _ _ (by omega)).trans r3)
    have tD : ((Z.setCell ⟨w.heap.size + 1, 0, none⟩ (.slice (some ⟨gz, 0, none⟩) 1 cz)).setCell ⟨w.heap.size + 1 + 1, 0, none⟩ (.int .i64 0)).heap[X0.heap.size]? = some (.deferred (some [])) := (set_other _ _ _ _ _ (by omega)).trans ((set_other _ _ _ _ _ (by omega)).trans hD)
    have tb : Below w.heap.size w ((Z.setCell ⟨w.heap.size + 1, 0, none⟩ (.slice (some ⟨gz, 0, none⟩) 1 cz)).setCell ⟨w.heap.size + 1 + 1, 0, none⟩ (.int .i64 0)) := (hbz.setCell (p := ⟨w.heap.size + 1, 0, none⟩) (Nat.le_succ _) _).setCell (p := ⟨w.heap.size + 1 + 1, 0, none⟩) (show w.heap.size ≤ w.heap.size + 1 + 1 by omega) _
    have tr : ∀ k, k ≠ w.heap.size + 1 → k ≠ w.heap.size + 1 + 1 → ((Z.setCell ⟨w.heap.size + 1, 0, none⟩ (.slice (some ⟨gz, 0, none⟩) 1 cz)).setCell ⟨w.heap.size + 1 + 1, 0, none⟩ (.int .i64 0)).heap[k]? = Z.heap[k]? := fun k a b => (set_other _ _ _ _ _ b).trans (set_other _ _ _ _ _ a)
    have tz : ((Z.setCell ⟨w.heap.size + 1, 0, none⟩ (.slice (some ⟨gz, 0, none⟩) 1 cz)).setCell ⟨w.heap.size + 1 + 1, 0, none⟩ (.int .i64 0)).heap.size = Z.heap.size := by simp [World.setCell]
    obtain ⟨V, hV⟩ : ∃ V, ((Z.setCell ⟨w.heap.size + 1, 0, none⟩ (.slice (some ⟨gz, 0, none⟩) 1 cz)).setCell ⟨w.heap.size + 1 + 1, 0, none⟩ (.int .i64 0)) = V := ⟨_, rfl⟩
    rw [hV] at t2 t3 tD tb tr tz ⊢
    clear hV
    refine ⟨by simp, .inl ⟨_, _, rfl, run_takeDeferred tD, ?_⟩⟩
    have u2 : (V.putObj X0.heap.size (.deferred none)).heap[w.heap.size + 1]? = _ := (World.putObj_heap_other (by omega)).trans t2
    have u3 : (V.putObj X0.heap.size (.deferred none)).heap[w.heap.size + 1 + 1]? = _ := (World.putObj_heap_other (by omega)).trans t3
    have hend : S (.returned (.tuple #[.slice (some ⟨gz, 0, none⟩) 1 cz, .int .i64 0])) (V.putObj X0.heap.size (.deferred none)) := by
      rw [← HSS.out]
      refine ⟨_, rfl, ⟨gz, cz, x, pz, rfl, by simp; omega, fun j u hu => ?_⟩, ?_⟩
      · refine (World.cell?_of_block (a := ⟨gz, 0 + j, none⟩) ?_).trans (e9 j u hu)
        exact (World.putObj_heap_other (by show gz ≠ X0.heap.size; omega)).trans (tr gz (by omega) (by omega))
      · exact ⟨tb.os, tb.tape, tb.output, by simpa using tb.size, fun k hk => (World.putObj_heap_other (by omega)).trans (tb.block k hk)⟩
    obtain ⟨Y, hY⟩ : ∃ Y, V.putObj X0.heap.size (.deferred none) = Y := ⟨_, rfl⟩
    rw [hY] at u2 u3 hend ⊢
    clear hY t2 t3 tD tb tr tz
    obtain ⟨z2, -⟩ := one_cell u2
    obtain ⟨z3, -⟩ := one_cell u3
    refine ⟨.tuple #[.slice (some ⟨gz, 0, none⟩) 1 cz, .int .i64 0], ?_, hend⟩
    simp [results, Tryz.results121, go_sem, z2, z3, asAddr]
end Go.Proofs.YtdeccekeknlnoaaGreatDoor

namespace Go.Proofs.YtdeccekeknlnoaaGreatDoor
open Go.RowKit Go.Shelf
/-- the cells of an event -/
def evL (d : List Nat) (p : Value) : List Value := b8 d ++ [.slice none 0 0, p, .slice none 0 0, .int .i64 0]
/-- one event of this stage -/
def EvsV (w : World) (v : Value) (d : List Nat) : Prop := ∃ g c pb, v = .slice (some ⟨g, 0, none⟩) 1 c ∧ g < w.heap.size ∧ w.rangeAt g 0 (evL d (.slice (some ⟨pb, 0, none⟩) 0 0))
theorem EvsV.below {w w' : World} {v : Value} {d : List Nat} (h : EvsV w v d) (hb : Below w.heap.size w w') : EvsV w' v d := by
  obtain ⟨g, c, pb, h1, h2, h3⟩ := h
  exact ⟨g, c, pb, h1, Nat.lt_of_lt_of_le h2 hb.size, fun j u hu => (hb.cell (p := ⟨g, 0 + j, none⟩) h2).trans (h3 j u hu)⟩
def AccSaid (d : List Nat) (w : World) (e : Ending) (w' : World) : Prop := ∃ v, e = .returned (.tuple #[v, .int .i64 0]) ∧ EvsV w' v d ∧ Below w.heap.size w w'
theorem build_event {d : List Nat} (h : d.length = 16) (pb : Nat) (w : World) : Sem.run Tryz.prog (Instr.build 93 #[(0, .agg (b8 d).toArray), (2, .slice (some ⟨pb, 0, none⟩) 0 0), (3, .slice none 0 0)]) w = .ok (.agg (evL d (.slice (some ⟨pb, 0, none⟩) 0 0)).toArray) w := by
  obtain ⟨a0, a1, a2, a3, a4, a5, a6, a7, a8, a9, aa, ab, ac, ad, ae, af, rfl⟩ := list16 h
  kernel_rfl
theorem build_events {d : List Nat} (h : d.length = 16) (pb : Nat) (w : World) : Sem.run Tryz.prog (Instr.buildSlice 98 1 #[(0, .agg (evL d (.slice (some ⟨pb, 0, none⟩) 0 0)).toArray)]) w = .ok (.slice (some ⟨w.heap.size, 0, none⟩) 1 1) (w.alloc (.cells (evL d (.slice (some ⟨pb, 0, none⟩) 0 0)).toArray 93)) := by
  obtain ⟨a0, a1, a2, a3, a4, a5, a6, a7, a8, a9, aa, ab, ac, ad, ae, af, rfl⟩ := list16 h
  kernel_rfl
theorem info_event : ∃ z, (Tryz.prog.info? 93).map (fun i => (i.zero, i.size, i.bytes)) = some (some z, 20, 96) ∧ z.cells.size = 20 := ⟨.agg (evL (List.replicate 16 0) (.slice none 0 0)).toArray, by kernel_rfl, rfl⟩
theorem exec_build3 {P : Program} {o : Oper} {ρ : Operand → Value} {t : TypeId} {i j k : Nat} {x y z : Operand} {a b c v : Value} {w w' : World} (ho : o.op = .build t #[(i, x), (j, y), (k, z)]) (hx : ρ x = a) (hy : ρ y = b) (hz : ρ z = c) (hr : (Instr.build t #[(i, a), (j, b), (k, c)]).run P w = .ok v w') : (execOp ρ o).run P w = .ok (.value v) w' := by
  simp only [execOp, ho, List.map_toArray, List.map_cons, List.map_nil, hx, hy, hz]
  simp [hr]
theorem wp_then {P : Program} {s : Code} {Q : Exit → Act → World → Prop} {a : Act} {w : World} (h : ∀ K : Act → World → Prop, (∀ a w, Q .normal a w → K a w) → s.wp P (Exit.then K Q) a w) : s.wp P Q a w := by
  refine wp_mono (h (Q .normal) (fun _ _ h => h)) ?_
  intro e a' w' hq
  cases e <;> exact hq
set_option maxRecDepth 1000000 in
set_option maxHeartbeats 2000000 in
theorem pd_accepting {Ks : List Int} {st : V8} (w : World) (hg : Gl w) (hs : ShaG w Ks st) (hv : GlV w) : Calls Tryz.prog 70 #[.string acc] w (AccSaid (stageD Ks st acc) w) := by
  obtain ⟨S, hS⟩ : ∃ S : Ending → World → Prop, AccSaid (stageD Ks st acc) w = S := ⟨_, rfl⟩
  rw [hS]
  have HSS := Lib.hid hS
  have hdl := stageD_len Ks st acc
  have hdd : ∀ W, ShaG W Ks st → Calls Tryz.prog 13 #[.string acc] W fun e w' => e = .returned (.agg (b8 (stageD Ks st acc)).toArray) ∧ Below W.heap.size W w' := fun W hW => stage_digest acc (by decide) W hW
  obtain ⟨d, hd⟩ : ∃ d, stageD Ks st acc = d := ⟨_, rfl⟩
  rw [hd] at hdl hdd HSS
  have hbe := fun pb w => build_event hdl pb w
  have hbs := fun pb w => build_events hdl pb w
  have h20 := Lib.hid (show ∀ pb, (evL d (.slice (some ⟨pb, 0, none⟩) 0 0)).length = 20 ∧ ∀ u ∈ evL d (.slice (some ⟨pb, 0, none⟩) 0 0), u.oneCell' = true from fun pb => ⟨by simp [evL, b8_len, hdl], fun u hu => by
    simp only [evL, List.mem_append, List.mem_cons, List.mem_nil_iff, or_false] at hu
    rcases hu with hu | rfl | rfl | rfl | rfl
    · exact b8_one _ u hu
    all_goals rfl⟩)
  obtain ⟨dv, hdv⟩ : ∃ dv, Value.agg (b8 d).toArray = dv := ⟨_, rfl⟩
  obtain ⟨ev, hev⟩ : ∃ ev : Nat → List Value, (fun pb => evL d (.slice (some ⟨pb, 0, none⟩) 0 0)) = ev := ⟨_, rfl⟩
  have hev' : ∀ pb, evL d (.slice (some ⟨pb, 0, none⟩) 0 0) = ev pb := fun pb => by rw [← hev]
  rw [hdv] at hdd
  simp only [hdv, hev'] at hbe hbs h20
  have HBE := Lib.hid (And.intro hbe hbs)
  have HDD := Lib.hid hdd
  have HEV := Lib.hid hev'
  clear hdv hev hev' hdd hbe hbs hdl
  have HG := Lib.hid (show ∀ W, Un w W → ShaG W Ks st ∧ GlV W from fun W hW => ⟨hs.below hW hs.size, hv.mem hW⟩)
  have HPO := Lib.hid (pr_of w hg)
  obtain ⟨T, hT⟩ : ∃ T, acc = T := ⟨_, rfl⟩
  rw [hT] at HDD HPO ⊢
  clear hS hd hg hs hv hT
  go_enter Tryz.func70, Tryz.ntmps70
  go_wp2_with (first
    | (go_at_call 120; refine HPO.out.mono ?_; rintro e W1 ⟨pv, rfl, hpv, hb1⟩; have hu1 : Un w W1 := hb1; have HP1 := Lib.hid hpv; obtain ⟨gp, cp, hp', ch', rfl, -⟩ := id hpv; clear hb1 hpv)
    | (go_at_call 121; refine (ca_of _ _ (HP1.out.below (Below.new _)) ((HG.out W1 hu1).2.mem (Below.new _))).mono ?_; rintro e W2 ⟨cv, rfl, hcv, hb2⟩; have hu2 : Un w W2 := un_step (un_alloc hu1 _) hb2; have HC2 := Lib.hid hcv; obtain ⟨gc, cc, xc, pc, rfl, hgc, hrc⟩ := id hcv; have l0 : W2.cell? ⟨gc, 0, none⟩ = some _ := hrc 0 _ rfl; have l1 : W2.cell? ⟨gc, 1, none⟩ = some _ := hrc 1 _ rfl; have l2 : W2.cell? ⟨gc, 2, none⟩ = some _ := hrc 2 _ rfl; have l3 : W2.cell? ⟨gc, 3, none⟩ = some _ := hrc 3 _ rfl; have l4 : W2.cell? ⟨gc, 4, none⟩ = some _ := hrc 4 _ rfl; clear hb2 hcv))
  refine wp_loop_rounds 2 ?_
  rw [rounds_succ]
  go_upto_region 13 with fail
  generalize hX : World.alloc (World.alloc W2 _) _ = X
  obtain ⟨b2, hbX, hsX⟩ := two_boxesC X hX
  have hux : Un w X := un_step hu2 hbX
  obtain ⟨y0, y1, y2, y3, -⟩ := four_cells b2
  have HX := Lib.hid (show ∀ Y, Un X Y → Y.cell? ⟨W2.heap.size + 1, 0, none⟩ = some (.slice (some ⟨pc, 0, none⟩) 0 0) ∧ Y.cell? ⟨W2.heap.size + 1, 1, none⟩ = some (.slice none 0 0) from fun Y hY => by
    obtain ⟨y0, y1, -⟩ := four_cells ((hY.block _ (lt_of_block b2)).trans b2)
    exact ⟨y0, y1⟩)
  have HUX := Lib.hid hux
  clear hX b2 hbX hsX l0 l1 l2 l3 l4 hrc hux y2 y3
  obtain ⟨ze, hie, hzz⟩ := info_event
  obtain ⟨i0, hi, hz0, hz1, hz2⟩ := info_parts hie
  have HI := Lib.hid (And.intro hi (And.intro hz0 (And.intro hz1 (And.intro hz2 hzz))))
  clear hie hi hz0 hz1 hz2 hzz
  refine wp_region_noPanic ?_
  refine wp_region_held_drew (S := (fun w' => Un X w' ∧ w'.cell? ⟨W2.heap.size + 1, 0, none⟩ = some (.slice (some ⟨pc, 0, none⟩) 0 0) ∧ w'.cell? ⟨W2.heap.size + 1, 1, none⟩ = some (.slice none 0 0))) (by kernel_rfl) ⟨un_drew _, HX.out _ (un_drew _)⟩ (fun hHeld => ?_)
  refine wpAnyH_take (i := 0) (oi := { dst := some 38, op := Op.move (Operand.tmp 7), type := 98, pos := "predict.go:41", after := #[], guard := none }) (v := ?_) rfl (by kernel_rfl) (by kernel_rfl) (by kernel_rfl) (fun _ _ _ h => h) (Or.inl ⟨by rfl, ?_⟩) (by assumption) ?_
  rotate_left
  · intro w hSw
    (try dsimp only at hSw)
    go_split_ands
    go_simp
    try with_reducible rfl
  try simp only [Act.put, List.setIfInBounds_toArray, List.set_cons_zero, List.set_cons_succ]
  refine wpAnyH_take (i := 1) (oi := { dst := some 39, op := Op.move (Operand.tmp 0), type := 9, pos := "predict.go:41", after := #[], guard := none }) (v := ?_) rfl (by kernel_rfl) (by kernel_rfl) (by kernel_rfl) (fun _ _ _ h => h) (Or.inl ⟨by rfl, ?_⟩) (by assumption) ?_
  rotate_left
  · intro w hSw
    (try dsimp only at hSw)
    go_split_ands
    go_simp
    try with_reducible rfl
  try simp only [Act.put, List.setIfInBounds_toArray, List.set_cons_zero, List.set_cons_succ]
  refine wpAnyH_take (i := 3) (oi := { dst := some 41, op := Op.fieldAddr 224 (Operand.tmp 10) 0, type := 0, pos := "predict.go:41", after := #[], guard := none }) (v := ?_) rfl (by kernel_rfl) (by kernel_rfl) (by kernel_rfl) (fun _ _ _ h => h) (Or.inl ⟨by rfl, ?_⟩) (by assumption) ?_
  rotate_left
  · intro w hSw
    (try dsimp only at hSw)
    go_split_ands
    go_simp
    try with_reducible rfl
  try simp only [Act.put, List.setIfInBounds_toArray, List.set_cons_zero, List.set_cons_succ]
  refine wpAnyH_take (i := 4) (oi := { dst := some 42, op := Op.load 41 (Operand.tmp 41), type := 41, pos := "predict.go:41", after := #[{ on := 3, ground := Ground.data }], guard := none }) (v := ?_) rfl (by kernel_rfl) (by kernel_rfl) (by kernel_rfl) (fun _ _ _ h => h) (Or.inl ⟨by rfl, ?_⟩) (by assumption) ?_
  rotate_left
  · intro w hSw
    (try dsimp only at hSw)
    go_split_ands
    go_simp
    try with_reducible rfl
  try simp only [Act.put, List.setIfInBounds_toArray, List.set_cons_zero, List.set_cons_succ]
  refine wpAnyH_take (i := 5) (oi := { dst := some 43, op := Op.fieldAddr 224 (Operand.tmp 10) 1, type := 0, pos := "predict.go:41", after := #[], guard := none }) (v := ?_) rfl (by kernel_rfl) (by kernel_rfl) (by kernel_rfl) (fun _ _ _ h => h) (Or.inl ⟨by rfl, ?_⟩) (by assumption) ?_
  rotate_left
  · intro w hSw
    (try dsimp only at hSw)
    go_split_ands
    go_simp
    try with_reducible rfl
  try simp only [Act.put, List.setIfInBounds_toArray, List.set_cons_zero, List.set_cons_succ]
  refine wpAnyH_take (i := 6) (oi := { dst := some 44, op := Op.load 41 (Operand.tmp 43), type := 41, pos := "predict.go:41", after := #[{ on := 5, ground := Ground.data }], guard := none }) (v := ?_) rfl (by kernel_rfl) (by kernel_rfl) (by kernel_rfl) (fun _ _ _ h => h) (Or.inl ⟨by rfl, ?_⟩) (by assumption) ?_
  rotate_left
  · intro w hSw
    (try dsimp only at hSw)
    go_split_ands
    go_simp
    try with_reducible rfl
  try simp only [Act.put, List.setIfInBounds_toArray, List.set_cons_zero, List.set_cons_succ]
  refine wpAnyH_ready (rs := [2]) (by kernel_rfl) (by simp) ?_
  refine AllReadyH.cons (o := { dst := some 40, op := Op.call { callee := Callee.value (Operand.func 13), args := #[Operand.tmp 39], argTypes := #[9] }, type := 39, pos := "predict.go:41", after := #[{ on := 1, ground := Ground.data }], guard := none }) rfl (fun K hK => ?_) AllReadyH.nil
  go_simp
  refine (HDD.out _ (HG.out _ (un_dr HUX.out)).1).mono ?_
  rintro e Y ⟨rfl, hbY⟩
  go_wp2_with fail
  have huY : Un X Y := un_step (un_dr (un_refl X)) hbY
  refine hK.out _ _ ⟨huY, HX.out _ huY⟩ (fun hHeld => ?_)
  clear hK K hHeld hbY
  try simp only [Act.put, List.setIfInBounds_toArray, List.set_cons_zero, List.set_cons_succ]
  refine wpAnyH_ready (rs := [7]) (by kernel_rfl) (by simp) ?_
  refine AllReadyH.cons (o := { dst := some 45, op := Op.build 93 #[(0, Operand.tmp 40), (2, Operand.tmp 42), (3, Operand.tmp 44)], type := 93, pos := "predict.go:41", after := #[{ on := 2, ground := Ground.data }, { on := 4, ground := Ground.data }, { on := 6, ground := Ground.data }], guard := none }) rfl (fun K hK => ?_) AllReadyH.nil
  refine step_val rfl (exec_build3 rfl rfl rfl rfl (HBE.out.1 pc Y)) ?_
  refine hK.out _ _ ⟨huY, HX.out _ huY⟩ (fun hHeld => ?_)
  clear hK K hHeld
  try simp only [Act.put, List.setIfInBounds_toArray, List.set_cons_zero, List.set_cons_succ]
  refine wpAnyH_ready (rs := [8]) (by kernel_rfl) (by simp) ?_
  refine AllReadyH.cons (o := { dst := some 46, op := Op.buildSlice 98 1 #[(0, Operand.tmp 45)], type := 98, pos := "predict.go:41", after := #[{ on := 7, ground := Ground.data }], guard := none }) rfl (fun K hK => ?_) AllReadyH.nil
  refine step_val rfl (exec_slice1 rfl rfl (HBE.out.2 pc Y)) ?_
  have huZ : Un X (Y.alloc (.cells (ev pc).toArray 93)) := un_alloc huY _
  refine hK.out _ _ ⟨huZ, HX.out _ huZ⟩ (fun hHeld => ?_)
  clear hK K hHeld
  try simp only [Act.put, List.setIfInBounds_toArray, List.set_cons_zero, List.set_cons_succ]
  obtain ⟨hi, hz0, hz1, hz2, hzz⟩ := HI.out
  refine wpAnyH_ready (rs := [9]) (by kernel_rfl) (by simp) ?_
  refine AllReadyH.cons (o := { dst := some 47, op := Op.call { callee := Callee.builtin Builtin.append, args := #[Operand.tmp 38, Operand.tmp 46], argTypes := #[98, 98] }, type := 98, pos := "predict.go:41", after := #[{ on := 0, ground := Ground.data }, { on := 8, ground := Ground.data }, { on := 2, ground := Ground.chain }], guard := none }) rfl (fun K hK => ?_) AllReadyH.nil
  refine step_append_lies _ rfl (.tmp 38) (.tmp 46) 98 rfl X.heap.size 93 i0 _ 20 96 Tryz.underlying98 hi hz0 hz1 hz2 hzz (by decide) (.slice none 0 0) 0 [] rfl (World.ownsRow_nil _ _ _ _) ⟨Y.heap.size, 0, none⟩ 1 1 (ev pc) rfl (h20.out pc).1 (World.news_of_block (heap_alloc_new _ _)) (h20.out pc).2 (by decide) (by decide) (by decide) huZ.size (Y.heap.size + 1) (by simp) ?_
  intro g cap W6 hown hgr hat hlt6
  have hu6 : Un X W6 := un_step huZ (by simpa using grown_none hgr)
  refine hK.out _ _ ⟨hu6, HX.out _ hu6⟩ (fun hHeld => ?_)
  clear hK K hHeld
  try simp only [Act.put, List.setIfInBounds_toArray, List.set_cons_zero, List.set_cons_succ]
  refine wpAnyH_ready (rs := [10]) (by kernel_rfl) (by simp) ?_
  refine AllReadyH.cons rfl (fun K hK => ?_) AllReadyH.nil
  go_simp
  refine hK.out _ _ ⟨hu6, HX.out _ hu6⟩ (fun hHeld => ?_)
  clear hK K hHeld
  try simp only [Act.put, List.setIfInBounds_toArray, List.set_cons_zero, List.set_cons_succ]
  refine wpAnyH_done (by kernel_rfl) ?_ _
  refine NoPanic.normal ?_
  have hR6 : W6.rangeAt g 0 (ev pc) := own_range hown
  have hlg : g < W6.heap.size := by
    obtain ⟨-, h2 | ⟨g', cap', cur, h2, h3, h4, -⟩⟩ := hown
    · cases h2.1
    · cases h2
      exact lt_of_block h4
  have HU6 := Lib.hid (And.intro hu6 (And.intro hR6 hlg))
  clear hu6 hR6 hat hlt6 hown hgr huZ huY hlg hi hz0 hz1 hz2 hzz
  go_wp2_with fail
  rw [rounds_succ]
  go_wp2_with fail
  rw [← HSS.out]
  obtain ⟨hu6, hR6, hlg⟩ := HU6.out
  rw [← HEV.out] at hR6
  exact ⟨_, rfl, ⟨_, _, pc, rfl, hlg, hR6⟩, un_step HUX.out hu6⟩
end Go.Proofs.YtdeccekeknlnoaaGreatDoor
