/- Chapter 38: package predict: the logs of a bundle of one stage. | Chapter 38: package predict: Logs of a bundle whose one stage is "accept;". | Chapter 38: package predict: Facts of one event. -/
import Derived.Test.YtdeccekeknlnoaaGreatDoorJPdB
namespace Go.Proofs.YtdeccekeknlnoaaGreatDoor
open Go.RowKit Go.Shelf
attribute [local go_sem] Oper.semAt_some
theorem ended_pd {d : List Nat} {pb s2 : Nat} {w Z : World} (hd : d.length = 16) (hw2 : w.heap[s2]? = some (.cells #[.slice none 0 0] 95 (0, 0))) (h : EndedR (PdPre d pb) PdFin (ApB s2) w Z) :
    (∀ k, k < w.heap.size → k ≠ s2 → Z.heap[k]? = w.heap[k]?) ∧ w.heap.size ≤ Z.heap.size ∧ Z.os = w.os ∧ Z.tape = w.tape ∧ Z.output = w.output ∧
    ∃ (x : Nat × Nat) (g c : Nat), Z.heap[s2]? = some (.cells #[.slice (some ⟨g, 0, none⟩) 1 c] 95 (0, 0)) ∧ w.heap.size ≤ g ∧ g < Z.heap.size ∧ Z.cell? ⟨g, 0, none⟩ = some (.slice (some ⟨x.1, 0, none⟩) 1 x.2) ∧ LogAt Z x d pb := by
  have hs2 := lt_of_block hw2
  obtain ⟨x, W, A, X, Y, W', o1, o2, hbg, ⟨hA, g, c, h1, h2, h3, h4⟩, hfin, rfl⟩ := h
  obtain rfl : W' = Y.putObj (w.heap.size + 1) o1 := hfin
  obtain ⟨b1, b2, b3, b4, b5⟩ := begun_pd hbg
  obtain ⟨o, ho, hW, hs, hP, rfl, hlp⟩ := hbg
  have hP' : Below W.heap.size W A := hP.1
  have hlx := hP.2
  have hsz := hA.size
  simp only [World.putObj_size] at hsz b2 h2
  have hPs := hP'.size
  have hz : ∀ k, k ≠ w.heap.size + 1 → ((Y.putObj (w.heap.size + 1) o1).putObj (w.heap.size + 1) o2).heap[k]? = Y.heap[k]? := fun k hk3 => by
    rw [World.putObj_heap_other hk3, World.putObj_heap_other hk3]
  have hx0 : A.cell? ⟨x.1, 0, none⟩ = some (.int .u8 (nth d 0)) := by
    have := hlx.2 0 (.int .u8 (nth d 0)) (by
      match d, hd with
      | a :: r, _ => simp [evL, b8, nth])
    simpa using this
  have hxs : x.1 ≠ s2 := by
    intro e
    rw [e] at hx0
    have h0 : A.heap[s2]? = w.heap[s2]? := (hP'.block _ (by omega)).trans (hW.block _ hs2)
    rw [World.cell?_of_block (a := ⟨s2, 0, none⟩) h0, (one_cell hw2).1] at hx0
    cases hx0
  have hxl : x.1 < A.heap.size := hlx.1
  refine ⟨fun k hk hk6 => ?_, by simp; omega, hA.os.trans b3, hA.tape.trans b4, hA.output.trans b5, x, g, c, ?_, by omega, by simp; omega, ?_, ?_⟩
  · rw [hz k (by omega), hA.block k (by simp; omega) hk6]
    exact b1 k hk
  · rw [hz s2 (by omega)]
    exact h1
  · exact (World.cell?_of_block (a := ⟨g, 0, none⟩) (hz g (by omega))).trans h4
  · by_cases e : x.1 = w.heap.size + 1
    · obtain ⟨r, hr⟩ := hlp
      rw [e] at hx0
      have h0 : A.heap[w.heap.size + 1]? = some (.loop r) := (hP'.block _ (by omega)).trans hr
      simp [World.cell?, h0] at hx0
    · refine hlx.keep ?_ (by simp; omega)
      rw [hz x.1 e, hA.block x.1 (by simpa using hxl) hxs, World.putObj_heap_other e]
def LogsSay (d : List Nat) (w : World) (e : Ending) (w' : World) : Prop := ∃ v, e = .returned v ∧ LogsV w' v d ∧ Below w.heap.size w w'
set_option maxRecDepth 1000000 in
set_option maxHeartbeats 1000000 in
theorem pd_append (sb gs cs ge ce : Nat) (d : List Nat) (hd : d.length = 16) (pb : Nat) (w : World) (h : StgAt w sb gs cs ge ce d pb) :
    Calls Tryz.prog 122 #[.slice none 0 0, .func (.func 123) #[] #[.pointer (some ⟨sb, 0, none⟩)]] w (LogsSay d w) := by
  obtain ⟨S, hS⟩ : ∃ S : Ending → World → Prop, LogsSay d w = S := ⟨_, rfl⟩
  rw [hS]
  have HSS := Lib.hid hS
  have hb0 := Below.new (w := w) (.cells #[.slice none 0 0] 95)
  have e0 := heap_alloc_new w (.cells #[.slice none 0 0] 95)
  obtain ⟨W0, hW0⟩ : ∃ X, w.alloc (.cells #[.slice none 0 0] 95) = X := ⟨_, rfl⟩
  have hs0 : W0.heap.size = w.heap.size + 1 := by rw [← hW0]; simp
  rw [hW0] at hb0 e0
  have ho := pd_once sb gs cs ge ce d hd pb W0 (h.below hb0)
  have HX := Lib.hid (And.intro e0 (And.intro hb0 (And.intro hs0 hd)))
  clear hS h hb0 hs0 e0 hd
  refine (callsIn_wide (n := 3)).1 (callsIn_of_wp_marks Tryz.func122 rfl trivial ?_ rfl)
  simp only [Tryz.ntmps122, List.append_toArray, List.cons_append, List.nil_append, List.size_toArray, List.length_cons, List.length_nil, Nat.reduceAdd, Nat.reduceSub, Array.replicate_succ, Array.replicate_zero, List.push_toArray, List.append_toArray, List.nil_append, List.cons_append]
  refine wpIn_wide.2 ?_
  go_wp2_with fail
  clear hW0
  refine (wpIn_wide (n := 3)).1 ?_
  refine wpIn_once rfl (enters_of Tryz.func123 (by kernel_rfl) rfl) ho (fun _ => rfl) (fun h => h.1) (fun hf k hk => ?fin) (ApB w.heap.size) (fun hbg hB => ?keep) (fun o hbg hB => ?kp) ?a1 ?assign ?body ?done
  case fin =>
    have e : _ = _ := hf
    rw [e]
  case keep =>
    have hb := begun_pd hbg
    have h6 := HX.out.2.2.1
    refine ⟨hB.1.size, fun k hk => hB.1.block k (by omega) (by omega)⟩
  case kp =>
    have hb := begun_pd hbg
    have h6 := HX.out.2.2.1
    obtain ⟨o', ho', hW, hs, hP, rfl, hlp⟩ := hbg
    have hsz := hB.1.size
    simp only [World.putObj_size] at hsz
    refine ⟨by simpa using hsz, fun k hk hk2 => ?_⟩
    rw [World.putObj_heap_other (by omega), hB.1.block k (by simpa using hk2) (by omega), World.putObj_heap_other (by omega)]
  case assign =>
    intro l x X K hK
    gi_wp2
    exact hK
  case body =>
    intro x W A X hbg
    obtain ⟨b1, b2, b3, b4, b5⟩ := begun_pd hbg
    have e2 := (b1 _ (lt_of_block HX.out.1)).trans HX.out.1
    obtain ⟨x2, -⟩ := one_cell e2
    have y2 := fun o1 o2 => al_cell o2 (al_cell o1 x2)
    have y1 := fun o1 => al_cell o1 x2
    have f2 := frz2 e2
    have HE := Lib.hid e2
    clear b1 b2 b3 b4 b5 e2 hbg
    gi_wp2
    exact ap_done HE.out
  case done =>
    intro Z hE hD
    obtain ⟨e1, e2, e3, e4, e5, x, g, c, e6, e7, e8, e9, e10⟩ := ended_pd HX.out.2.2.2 HX.out.1 hE
    obtain ⟨y6, -⟩ := one_cell e6
    obtain ⟨h1, h2, h3, h4⟩ := HX.out
    have hbz : Below w.heap.size w Z := ⟨e3.trans h2.os, e4.trans h2.tape, e5.trans h2.output, by have := h2.size; omega, fun k hk => (e1 k (by omega) (by omega)).trans (h2.block k hk)⟩
    have HF := Lib.hid (And.intro e7 (And.intro e8 (And.intro e9 (And.intro e10 (And.intro hbz (And.intro hD h3))))))
    clear e1 e2 e3 e4 e5 e6 e7 e8 e9 e10 h1 h2 h3 h4 hbz hE hD
    go_wp2_with fail
    obtain ⟨e7, e8, e9, e10, hbz, hD, h3⟩ := HF.out
    refine ⟨by simp, .inl ⟨_, _, rfl, run_takeDeferred hD, ?_⟩⟩
    refine ⟨_, results_tmp rfl _ _ _, ?_⟩
    rw [← HSS.out]
    have hgD : g ≠ W0.heap.size := by
      intro e
      rw [e] at e9
      simp [World.cell?, hD] at e9
    have hxD : x.1 ≠ W0.heap.size := by
      intro e
      have := e10.2 0 (.int .u8 (nth d 0)) (by
        have hd := HX.out.2.2.2
        match d, hd with
        | a :: r, _ => simp [evL, b8, nth])
      rw [e] at this
      simp [World.cell?, hD] at this
    refine ⟨_, rfl, ⟨g, c, pb, x, rfl, by simpa using e8, ?_, e10.keep (World.putObj_heap_other hxD) (by simp)⟩, hbz.os, hbz.tape, hbz.output, by simpa using hbz.size, fun k hk => (World.putObj_heap_other (by omega)).trans (hbz.block k hk)⟩
    exact (World.cell?_of_block (a := ⟨g, 0, none⟩) (World.putObj_heap_other hgD)).trans e9
set_option maxRecDepth 1000000 in
set_option maxHeartbeats 1000000 in
theorem pd_collect (sb gs cs ge ce : Nat) (d : List Nat) (hd : d.length = 16) (pb : Nat) (w : World) (h : StgAt w sb gs cs ge ce d pb) :
    Calls Tryz.prog 71 #[.func (.func 123) #[] #[.pointer (some ⟨sb, 0, none⟩)]] w (LogsSay d w) := by
  obtain ⟨S, hS⟩ : ∃ S : Ending → World → Prop, LogsSay d w = S := ⟨_, rfl⟩
  rw [hS]
  have HSS := Lib.hid hS
  have HA := Lib.hid (pd_append sb gs cs ge ce d hd pb w h)
  clear hS h hd
  go_enter Tryz.func71, Tryz.ntmps71
  go_wp2_with (go_at_call 122; refine HA.out.mono ?_; rintro e W1 ⟨v, rfl, hv, hb⟩)
  rw [← HSS.out]
  exact ⟨v, rfl, hv, hb⟩
end Go.Proofs.YtdeccekeknlnoaaGreatDoor

namespace Go.Proofs.YtdeccekeknlnoaaGreatDoor
open Go.RowKit Go.Shelf
def LogsRet (d : List Nat) (w : World) (e : Ending) (w' : World) : Prop := ∃ v, e = .returned (.tuple #[v, .int .i64 0]) ∧ LogsV w' v d ∧ Below w.heap.size w w'
theorem stg_new {W1 : World} {ge ce pb cap : Nat} {o1 : Obj} {r : Array Value} {d : List Nat} (hge : ge < W1.heap.size) (hre : W1.rangeAt ge 0 (evL d (.slice (some ⟨pb, 0, none⟩) 0 0))) :
    ∀ X, (((W1.alloc o1).alloc (.cells (#[.slice (some ⟨ge, 0, none⟩) 1 ce] ++ r) 98)).alloc (.cells #[.slice (some ⟨W1.heap.size + 1, 0, none⟩) 1 cap] 95)).drew = X →
    StgAt X (W1.heap.size + 1 + 1) (W1.heap.size + 1) cap ge ce d pb ∧ Un W1 X := by
  rintro X rfl
  obtain ⟨b1, b2, b3, hb, hs⟩ := three_b (w := W1) (o1 := o1) (o2 := (.cells (#[.slice (some ⟨ge, 0, none⟩) 1 ce] ++ r) 98)) (o3 := (.cells #[.slice (some ⟨W1.heap.size + 1, 0, none⟩) 1 cap] 95)) _ rfl
  refine ⟨⟨by simp, by simp, by simp; omega, (one_cell b3).1, head_cell b2, fun j u hu => ?_⟩, un_dr hb⟩
  exact (hb.cell (p := ⟨ge, 0 + j, none⟩) hge).trans (hre j u hu)
set_option maxRecDepth 1000000 in
set_option maxHeartbeats 1000000 in
theorem pd_logs {Ks : List Int} {st : V8} (m0 m1 m2 : Int) (A : Option Addr) (mn mc sg cg : Nat) (w : World) (hg : Gl w) (hs : ShaG w Ks st) (hv : GlV w) (hc : w.cell? ⟨sg, 0, none⟩ = some (.string acc)) :
    Calls Tryz.prog 39 #[.agg #[.int .i64 m0, .int .i64 m1, .int .i64 m2, .slice A mn mc, .slice none 0 0, .slice (some ⟨sg, 0, none⟩) 1 cg]] w (LogsRet (stageD Ks st acc) w) := by
  obtain ⟨S, hS⟩ : ∃ S : Ending → World → Prop, LogsRet (stageD Ks st acc) w = S := ⟨_, rfl⟩
  rw [hS]
  have HSS := Lib.hid hS
  have hdl := stageD_len Ks st acc
  have hb0 := Below.new (w := w) (.cells #[.int .i64 m0, .int .i64 m1, .int .i64 m2, .slice A mn mc, .slice none 0 0, .slice (some ⟨sg, 0, none⟩) 1 cg] 49)
  have e0 := heap_alloc_new w (.cells #[.int .i64 m0, .int .i64 m1, .int .i64 m2, .slice A mn mc, .slice none 0 0, .slice (some ⟨sg, 0, none⟩) 1 cg] 49)
  have c0 := al_cell (.cells #[.int .i64 m0, .int .i64 m1, .int .i64 m2, .slice A mn mc, .slice none 0 0, .slice (some ⟨sg, 0, none⟩) 1 cg] 49) hc
  obtain ⟨W0, hW0⟩ : ∃ X, w.alloc (.cells #[.int .i64 m0, .int .i64 m1, .int .i64 m2, .slice A mn mc, .slice none 0 0, .slice (some ⟨sg, 0, none⟩) 1 cg] 49) = X := ⟨_, rfl⟩
  rw [hW0] at hb0 e0 c0
  have c5 : W0.cell? ⟨w.heap.size, 5, none⟩ = some (.slice (some ⟨sg, 0, none⟩) 1 cg) := by simp [World.cell?, e0]
  have HA := Lib.hid (pd_accepting W0 (hg.mem hb0) (hs.below hb0 hs.size) (hv.mem hb0))
  have HB := Lib.hid hb0
  obtain ⟨d, hd⟩ : ∃ d, stageD Ks st acc = d := ⟨_, rfl⟩
  rw [hd] at hdl HA HSS
  have HD := Lib.hid hdl
  obtain ⟨T, hT⟩ : ∃ T, acc = T := ⟨_, rfl⟩
  rw [hT] at HA c0
  clear hS hd hdl hb0 e0 hg hs hv hc hT
  go_enter Tryz.func39, Tryz.ntmps39
  go_wp2_with fail
  refine wp_loop_rounds 2 ?_
  rw [rounds_succ]
  go_wp2_with (go_at_call 70; refine HA.out.mono ?_; rintro e W1 ⟨v, rfl, hv1, hb1⟩; obtain ⟨ge, ce, pb, rfl, hge, hre⟩ := id hv1; have HV1 := Lib.hid (And.intro hge (And.intro hre hb1)); clear hge hre hb1 hv1)
  rw [rounds_succ]
  go_wp2_with (first
    | (go_at_call 72; refine (pd_comb _ _ _ _).mono ?_; rintro e W2 ⟨rfl, hq⟩; have hq' := hq.symm; subst hq')
    | (go_at_call 71; generalize hX : (World.alloc (World.alloc (World.alloc W1 _) _) _).drew = X; obtain ⟨hst, huX⟩ := stg_new HV1.out.1 HV1.out.2.1 X hX; refine (pd_collect _ _ _ _ _ d HD.out pb X hst).mono ?_; rintro e W3 ⟨v, rfl, hv3, hb3⟩))
  rw [← HSS.out]
  exact ⟨v, rfl, hv3, un_step (un_step (un_step HB.out HV1.out.2.2) huX) hb3⟩
end Go.Proofs.YtdeccekeknlnoaaGreatDoor

namespace Go.Proofs.YtdeccekeknlnoaaGreatDoor
open Go.RowKit Go.Shelf
theorem build_digs {d : List Nat} (h : d.length = 16) (w : World) : Sem.run Tryz.prog (Instr.buildSlice 34 1 #[(0, .agg (b8 d).toArray)]) w = .ok (.slice (some ⟨w.heap.size, 0, none⟩) 1 1) (w.alloc (.cells (b8 d).toArray 39)) := by
  obtain ⟨a0, a1, a2, a3, a4, a5, a6, a7, a8, a9, aa, ab, ac, ad, ae, af, rfl⟩ := list16 h
  kernel_rfl
theorem info_dig : ∃ z, (Tryz.prog.info? 39).map (fun i => (i.zero, i.size, i.bytes)) = some (some z, 16, 16) ∧ z.cells.size = 16 := ⟨.agg (b8 (List.replicate 16 0)).toArray, by kernel_rfl, rfl⟩
theorem four_b {w : World} {o1 o2 o3 o4 : Obj} : ∀ W, (((w.alloc o1).alloc o2).alloc o3).alloc o4 = W → W.heap[w.heap.size + 1]? = some o2 ∧ W.heap[w.heap.size + 1 + 1]? = some o3 ∧ W.heap[w.heap.size + 1 + 1 + 1]? = some o4 ∧ Below w.heap.size w W ∧ W.heap.size = w.heap.size + 4 := by
  rintro W rfl
  obtain ⟨a, b, c, hb, hs⟩ := three_b (w := w) (o1 := o1) (o2 := o2) (o3 := o3) _ rfl
  have h4 := Below.new (w := ((w.alloc o1).alloc o2).alloc o3) o4
  have e := heap_alloc_new (((w.alloc o1).alloc o2).alloc o3) o4
  rw [hs] at e
  exact ⟨(h4.block _ (lt_of_block b)).trans b, (h4.block _ (lt_of_block c)).trans c, e, hb.trans (h4.mono (by omega)), by rw [World.size_alloc, hs]⟩
theorem frz_row {w : World} {b : Nat} {cs : Array Value} {t : TypeId} (h : w.heap[b]? = some (.cells cs t (0, 0))) (o : Nat) (o1 o2 : Obj) : ((w.alloc o1).alloc o2).frozen? ⟨b, o, none⟩ = false := by
  have h2 : ((w.alloc o1).alloc o2).heap[b]? = some (.cells cs t (0, 0)) := (Below.heap_alloc _ o2 _ (by have := lt_of_block h; simp; omega)).trans ((Below.heap_alloc _ o1 _ (lt_of_block h)).trans h)
  simp [World.frozen?, h2]
def FactsSay (ver ep : Int) (d : List Nat) (w : World) (e : Ending) (w' : World) : Prop := ∃ v, e = .returned v ∧ RFacts w' w'.heap.size v ⟨ver, ep, [d], [[]]⟩ ∧ Below w.heap.size w w'
set_option maxRecDepth 1000000 in
set_option maxHeartbeats 1000000 in
theorem re_facts (ver m1 m2 ep : Int) (A : Option Addr) (mn mc : Nat) (x : Nat × Nat) (d : List Nat) (hd : d.length = 16) (pb : Nat) (w : World) (h : LogAt w x d pb) :
    Calls Tryz.prog 42 #[.agg #[.int .i64 ver, .int .i64 m1, .int .i64 m2, .slice A mn mc], .slice (some ⟨x.1, 0, none⟩) 1 x.2, .int .i64 ep] w (FactsSay ver ep d w) := by
  obtain ⟨S, hS⟩ : ∃ S : Ending → World → Prop, FactsSay ver ep d w = S := ⟨_, rfl⟩
  rw [hS]
  have HSS := Lib.hid hS
  obtain ⟨xg, xc⟩ := x
  obtain ⟨hx1, hx2⟩ := h
  obtain ⟨E, N, L⟩ := letV
  obtain ⟨R, K, LD⟩ := letD
  have hlen : (evL d (.slice (some ⟨pb, 0, none⟩) 0 0)).length = 20 := by simp [evL, b8_len, hd]
  have hone : ∀ u ∈ evL d (.slice (some ⟨pb, 0, none⟩) 0 0), u.oneCell' = true := fun u hu => by
    simp only [evL, List.mem_append, List.mem_cons, List.mem_nil_iff, or_false] at hu
    rcases hu with hu | rfl | rfl | rfl | rfl
    · exact b8_one _ u hu
    all_goals rfl
  obtain ⟨ev, hev⟩ : ∃ ev, (evL d (.slice (some ⟨pb, 0, none⟩) 0 0)).toArray = ev := ⟨_, rfl⟩
  have hes : ev.size = 20 := by rw [← hev]; simpa using hlen
  -- the world ahead of the loop
  obtain ⟨W0, hW0⟩ : ∃ X, ((w.alloc (.cells #[.int .i64 ver, .int .i64 m1, .int .i64 m2, .slice A mn mc] 45)).alloc (.cells #[.int .i64 0, .int .i64 0, .slice none 0 0, .slice none 0 0] 103)).alloc (.cells #[.int .i64 ver, .int .i64 ep, .slice none 0 0, .slice none 0 0] 103) = X := ⟨_, rfl⟩
  obtain ⟨-, a1, a2, hb0, hs0⟩ := three_b W0 hW0
  have hx3 : W0.rangeAt xg 0 (evL d (.slice (some ⟨pb, 0, none⟩) 0 0)) := fun j u hu => (hb0.cell (p := ⟨xg, 0 + j, none⟩) hx1).trans (hx2 j u hu)
  have hl1 := ld_mid (N := N) (n := 20) L.sz hx3 hlen
  have hs1 := st_new (w := W0) (cs := ev) (z := #[.int .u8 0, .int .u8 0, .int .u8 0, .int .u8 0, .int .u8 0, .int .u8 0, .int .u8 0, .int .u8 0, .int .u8 0, .int .u8 0, .int .u8 0, .int .u8 0, .int .u8 0, .int .u8 0, .int .u8 0, .int .u8 0, .slice none 0 0, .slice none 0 0, .slice none 0 0, .int .i64 0]) (t := 93) (by rw [hes]; rfl) (by rw [← hev, Array.all_eq_true_iff_forall_mem]; intro u hu; exact hone u (by simpa using hu))
  rw [hev] at hl1
  have hesN : ev.size = N := by rw [hes, L.sz]
  have laE : ∀ w, Sem.run Tryz.prog (isAgg E) w = .ok true w := fun w => by rw [L.ty]; exact Tryz.isAgg93 w
  have lzE : ∀ w, Sem.run Tryz.prog (sizeOf E) w = .ok N w := fun w => by rw [L.ty, L.sz]; exact Tryz.sizeOf93 w
  have laR : ∀ w, Sem.run Tryz.prog (isAgg R) w = .ok true w := fun w => by rw [LD.ty]; exact Tryz.isAgg39 w
  have lzR : ∀ w, Sem.run Tryz.prog (sizeOf R) w = .ok K w := fun w => by rw [LD.ty, LD.sz]; exact Tryz.sizeOf39 w
  have o1 : ∀ x, Op.load 93 x = Op.load E x := fun x => by rw [L.ty]
  have o2 : ∀ x y, Op.store 93 x y = Op.store E x y := fun x y => by rw [L.ty]
  have o3 : ∀ x, Op.load 39 x = Op.load R x := fun x => by rw [LD.ty]
  have HK := Lib.hid (And.intro hd (And.intro hev (And.intro hes (And.intro a1 (And.intro a2 (And.intro hb0 (And.intro hs0 LD)))))))
  have HW0 := Lib.hid hW0
  clear hS hx1 hx2 hx3 hlen hone hev hes a1 a2 hb0 hs0 L LD hW0
  go_enter Tryz.func42, Tryz.ntmps42
  simp only [o1, o2, o3]
  clear o1 o2 o3
  go_wp2_with fail
  rw [HW0.out]
  refine wp_loop_rounds 2 ?_
  rw [rounds_succ]
  go_upto_region 5 with fail
  obtain ⟨X1, hX1⟩ : ∃ X, W0.alloc (.cells ev 93) = X := ⟨_, rfl⟩
  obtain ⟨hd, hev, hes, a1, a2, hb0, hs0, LD⟩ := HK.out
  have hbX : Below W0.heap.size W0 X1 := by rw [← hX1]; exact Below.new _
  have hsX : X1.heap.size = W0.heap.size + 1 := by rw [← hX1]; simp
  have e3 : X1.heap[W0.heap.size]? = some (.cells ev 93 (0, 0)) := by rw [← hX1]; exact heap_alloc_new _ _
  have e1 := (hbX.block _ (lt_of_block a1)).trans a1
  have e2 := (hbX.block _ (lt_of_block a2)).trans a2
  have hr3 : X1.rangeAt W0.heap.size 0 (b8 d) := fun j u hu => range_block e3 j u (by
    rw [← hev, evL]
    simp only
    rw [List.getElem?_append_left (List.getElem?_eq_some_iff.1 hu).1]
    exact hu)
  have hl3 := ld_mid (N := K) (n := 16) LD.sz hr3 (by rw [b8_len, hd])
  have hbd := fun w => build_digs hd w
  have HL16 := Lib.hid (show (b8 d).length = 1 * 16 by rw [b8_len, hd])
  obtain ⟨dv, hdv⟩ : ∃ dv, (b8 d).toArray = dv := ⟨_, rfl⟩
  have HDV := Lib.hid hdv
  rw [hdv] at hl3 hbd
  obtain ⟨-, -, q2, q3, qf⟩ := four_cells e2
  obtain ⟨ze, hie, hzz⟩ := info_dig
  obtain ⟨i0, hi, hz0, hz1, hz2⟩ := info_parts hie
  have HN := Lib.hid (show ∀ j u, (b8 d)[j]? = some u → (X1.alloc (.cells dv 39)).cell? ((⟨X1.heap.size, 0, none⟩ : Addr).add j) = some u from fun j u hu => by
    have := range_block (heap_alloc_new X1 (.cells dv 39)) j u (by rw [← hdv]; exact hu)
    rwa [Addr.add_mid])
  have HX := Lib.hid (And.intro e1 (And.intro e2 (And.intro e3 (And.intro hbX hsX))))
  rw [hX1]
  clear hX1 hd hev hes a1 a2 hb0 hs0 LD hbX hsX e1 e2 e3 hr3 hie hl1 hs1 hdv hesN
  refine wp_region_list ?_
  refine wpList_step (fun K hK => ?_)
  go_simp
  refine hK _ _ ?_
  clear hK K
  try simp only [Act.put, List.setIfInBounds_toArray, List.set_cons_zero, List.set_cons_succ]
  refine wpList_step (fun K hK => ?_)
  go_simp
  refine hK _ _ ?_
  clear hK K
  try simp only [Act.put, List.setIfInBounds_toArray, List.set_cons_zero, List.set_cons_succ]
  refine wpList_step (fun K hK => ?_)
  go_simp
  refine hK _ _ ?_
  clear hK K
  try simp only [Act.put, List.setIfInBounds_toArray, List.set_cons_zero, List.set_cons_succ]
  refine wpList_step (fun K hK => ?_)
  go_simp
  refine hK _ _ ?_
  clear hK K
  try simp only [Act.put, List.setIfInBounds_toArray, List.set_cons_zero, List.set_cons_succ]
  refine wpList_step (fun K hK => ?_)
  refine step_val rfl (exec_slice1 rfl rfl (hbd X1)) ?_
  refine hK _ _ ?_
  clear hK K
  try simp only [Act.put, List.setIfInBounds_toArray, List.set_cons_zero, List.set_cons_succ]
  refine wpList_append_own _ rfl (.tmp 21) (.tmp 24) 34 rfl X1.heap.size 39 i0 _ 16 16 Tryz.underlying34 hi hz0 hz1 hz2 hzz (by decide) (.slice none 0 0) 0 [] rfl (World.ownsRow_nil _ _ _ _) ⟨X1.heap.size, 0, none⟩ 1 1 (b8 d) rfl HL16.out HN.out (b8_one d) (by decide) (by decide) (by simp) ?_
  intro v7 W7 hown7 hgr7 _
  obtain ⟨g7, c7, hv7, hlt7⟩ := own_two (n := 0) hown7
  subst hv7
  have hu7 : Un X1 W7 := (Below.new (.cells dv 39)).trans ((grown_none hgr7).mono (by simp))
  have m2 := (hu7.block _ (lt_of_block HX.out.2.1)).trans HX.out.2.1
  obtain ⟨-, -, r2, r3, rf⟩ := four_cells m2
  have H7 := Lib.hid (And.intro hown7 (And.intro hlt7 (And.intro hu7 m2)))
  clear hown7 hlt7 hu7 m2 hgr7
  go_upto_region 6 with fail
  obtain ⟨hown7, hlt7, hu7, m2⟩ := H7.out
  obtain ⟨hd, hev, hes, a1, a2, hb0, hs0, LD⟩ := HK.out
  obtain ⟨e1, e2, e3, hbX, hsX⟩ := HX.out
  have hg7 : X1.heap.size ≤ g7 := by
    obtain ⟨-, h2 | ⟨g', cap', cur, h2, h3, h4, -⟩⟩ := hown7
    · cases h2.1
    · cases h2
      exact h3
  have hz7 := hu7.size
  have hV2 := heap_set m2 2 (.slice (some ⟨g7, 0, none⟩) (0 + 1) c7)
  simp only [List.setIfInBounds_toArray, List.set_cons_zero, List.set_cons_succ] at hV2
  obtain ⟨V, hV⟩ : ∃ V, W7.setCell ⟨w.heap.size + 1 + 1, 2, none⟩ (.slice (some ⟨g7, 0, none⟩) (0 + 1) c7) = V := ⟨_, rfl⟩
  have hvo : ∀ k, k ≠ w.heap.size + 1 + 1 → V.heap[k]? = W7.heap[k]? := fun k hk => by rw [← hV]; exact set_other _ _ _ _ _ hk
  have hvs : V.heap.size = W7.heap.size := by rw [← hV]; simp [World.setCell]
  have hvb : Below w.heap.size w V := by
    rw [← hV]
    exact ((hb0.trans (hbX.mono (by omega))).trans (Below.mono hu7 (by omega))).setCell (p := ⟨w.heap.size + 1 + 1, 2, none⟩) (show w.heap.size ≤ w.heap.size + 1 + 1 by omega) _
  have hown := own_frame (w' := V) hown7 (fun k hk => by
    simp only [Value.ownBlock, Option.some.injEq] at hk
    subst hk
    exact hvo _ (by omega))
  rw [hV] at hV2
  change Code.wp _ _ _ _ (W7.setCell ⟨w.heap.size + 1 + 1, 2, none⟩ (.slice (some ⟨g7, 0, none⟩) (0 + 1) c7))
  rw [hV]
  have t6 := (hvo (w.heap.size + 1) (by omega)).trans ((hu7.block _ (lt_of_block e1)).trans e1)
  have tev := (hvo W0.heap.size (by omega)).trans ((hu7.block _ (lt_of_block e3)).trans e3)
  obtain ⟨-, -, -, v3, -⟩ := four_cells hV2
  have z3 := fun o1 o2 => al_cell o2 (al_cell o1 v3)
  have zf := frz_row hV2 3
  have v17 : V.cell? ⟨W0.heap.size, 17, none⟩ = some (.slice (some ⟨pb, 0, none⟩) 0 0) := by
    have := range_block tev 17 (.slice (some ⟨pb, 0, none⟩) 0 0) (by
      rw [← hev]
      simp only [evL]
      rw [List.getElem?_append_right (by rw [b8_len, hd]; omega), b8_len, hd]
      rfl)
    simpa using this
  have HV := Lib.hid (And.intro hV2 (And.intro t6 (And.intro hown (And.intro hvb (And.intro (show w.heap.size + 3 ≤ V.heap.size by omega) (And.intro hd (And.intro hg7 (And.intro (show w.heap.size + 3 ≤ X1.heap.size by omega) (show g7 < V.heap.size by omega)))))))))
  clear hown7 hlt7 hu7 m2 hd hev hes a1 a2 hb0 hs0 LD e1 e2 e3 hbX hsX hg7 hz7 hV2 hV hvo hvs hvb hown t6 tev r2 r3 rf q2 q3 qf hl3 hbd
  go_wp2_with fail
  obtain ⟨cap, hcap⟩ : ∃ cap, ((Question.appendCap 1 0 41).cut (V.tape V.drawn (Question.appendCap 1 0 41))) = cap := ⟨_, rfl⟩
  have hcb : 1 ≤ cap ∧ cap ≤ maxLen := by
    rw [← hcap]
    simp only [Question.cut, maxLen]
    omega
  rw [hcap]
  obtain ⟨hV2, t6, hown, hvb, hvs, hd, hg7, hx1, hlt7⟩ := HV.out
  obtain ⟨Z, hZ⟩ : ∃ Z, (V.alloc (.cells #[.slice (some ⟨pb, 0, none⟩) 0 0] 41)).alloc (.cells (#[.slice (some ⟨pb, 0, none⟩) 0 0] ++ Builtin.zeroCells #[.slice none 0 0] (cap - 1)) 41) = Z := ⟨_, rfl⟩
  obtain ⟨b2, hbZ, hsZ⟩ := two_boxesC Z hZ
  have b2' := head_cell b2
  have hU7 := heap_set ((hbZ.block _ (lt_of_block hV2)).trans hV2) 3 (.slice (some ⟨V.heap.size + 1, 0, none⟩) 1 cap)
  simp only [List.setIfInBounds_toArray, List.set_cons_zero, List.set_cons_succ] at hU7
  obtain ⟨U, hU⟩ : ∃ U, (Z.setCell ⟨w.heap.size + 1 + 1, 3, none⟩ (.slice (some ⟨V.heap.size + 1, 0, none⟩) 1 cap)).drew = U := ⟨_, rfl⟩
  have huo : ∀ k, k ≠ w.heap.size + 1 + 1 → U.heap[k]? = Z.heap[k]? := fun k hk => by rw [← hU]; exact set_other _ _ _ _ _ hk
  have hus : U.heap.size = Z.heap.size := by rw [← hU]; simp [World.setCell]
  have hub : Below w.heap.size w U := by
    rw [← hU]
    exact ((hvb.trans (hbZ.mono hvb.size)).setCell (p := ⟨w.heap.size + 1 + 1, 3, none⟩) (show w.heap.size ≤ w.heap.size + 1 + 1 by omega) _).drew
  have hU7' : U.heap[w.heap.size + 1 + 1]? = some (.cells #[.int .i64 ver, .int .i64 ep, .slice (some ⟨g7, 0, none⟩) 1 c7, .slice (some ⟨V.heap.size + 1, 0, none⟩) 1 cap] 103 (0, 0)) := by rw [← hU]; exact hU7
  have hU6 := (huo _ (by omega)).trans ((hbZ.block _ (lt_of_block t6)).trans t6)
  have hrw : U.rangeAt g7 0 (b8 d) := fun j u hu => (World.cell?_of_block (a := ⟨g7, 0 + j, none⟩) ((huo g7 (by omega)).trans (hbZ.block _ hlt7))).trans (own_range (n := 1) hown j u (by simpa using hu))
  have hpt : U.cell? ⟨V.heap.size + 1, 0, none⟩ = some (.slice (some ⟨pb, 0, none⟩) 0 0) := (World.cell?_of_block (a := ⟨V.heap.size + 1, 0, none⟩) (huo (V.heap.size + 1) (by omega))).trans b2'
  rw [hZ, hU]
  obtain ⟨y0, y1, y2, y3, -⟩ := four_cells hU7'
  obtain ⟨x0, x1, x2, x3, xf⟩ := four_cells hU6
  have hW6 := heap_set (heap_set (heap_set (heap_set hU6 0 (.int .i64 ver)) 1 (.int .i64 ep)) 2 (.slice (some ⟨g7, 0, none⟩) 1 c7)) 3 (.slice (some ⟨V.heap.size + 1, 0, none⟩) 1 cap)
  simp only [List.setIfInBounds_toArray, List.set_cons_zero, List.set_cons_succ] at hW6
  have hfin : S (.returned (.agg #[.int .i64 ver, .int .i64 ep, .slice (some ⟨g7, 0, none⟩) 1 c7, .slice (some ⟨V.heap.size + 1, 0, none⟩) 1 cap])) ((((U.setCell ⟨w.heap.size + 1, 0, none⟩ (.int .i64 ver)).setCell ⟨w.heap.size + 1, 1, none⟩ (.int .i64 ep)).setCell ⟨w.heap.size + 1, 2, none⟩ (.slice (some ⟨g7, 0, none⟩) 1 c7)).setCell ⟨w.heap.size + 1, 3, none⟩ (.slice (some ⟨V.heap.size + 1, 0, none⟩) 1 cap)) := by
    rw [← HSS.out]
    have hb4 : Below w.heap.size w ((((U.setCell ⟨w.heap.size + 1, 0, none⟩ (.int .i64 ver)).setCell ⟨w.heap.size + 1, 1, none⟩ (.int .i64 ep)).setCell ⟨w.heap.size + 1, 2, none⟩ (.slice (some ⟨g7, 0, none⟩) 1 c7)).setCell ⟨w.heap.size + 1, 3, none⟩ (.slice (some ⟨V.heap.size + 1, 0, none⟩) 1 cap)) := (((hub.setCell (p := ⟨w.heap.size + 1, 0, none⟩) (Nat.le_succ _) _).setCell (p := ⟨w.heap.size + 1, 1, none⟩) (Nat.le_succ _) _).setCell (p := ⟨w.heap.size + 1, 2, none⟩) (Nat.le_succ _) _).setCell (p := ⟨w.heap.size + 1, 3, none⟩) (Nat.le_succ _) _
    have ho : ∀ k, k ≠ w.heap.size + 1 → ((((U.setCell ⟨w.heap.size + 1, 0, none⟩ (.int .i64 ver)).setCell ⟨w.heap.size + 1, 1, none⟩ (.int .i64 ep)).setCell ⟨w.heap.size + 1, 2, none⟩ (.slice (some ⟨g7, 0, none⟩) 1 c7)).setCell ⟨w.heap.size + 1, 3, none⟩ (.slice (some ⟨V.heap.size + 1, 0, none⟩) 1 cap)).heap[k]? = U.heap[k]? := fun k hk => by rw [set_other _ _ _ _ _ hk, set_other _ _ _ _ _ hk, set_other _ _ _ _ _ hk, set_other _ _ _ _ _ hk]
    have hz : ((((U.setCell ⟨w.heap.size + 1, 0, none⟩ (.int .i64 ver)).setCell ⟨w.heap.size + 1, 1, none⟩ (.int .i64 ep)).setCell ⟨w.heap.size + 1, 2, none⟩ (.slice (some ⟨g7, 0, none⟩) 1 c7)).setCell ⟨w.heap.size + 1, 3, none⟩ (.slice (some ⟨V.heap.size + 1, 0, none⟩) 1 cap)).heap.size = U.heap.size := by simp [World.setCell]
    refine ⟨_, rfl, ⟨_, _, rfl, ?_, ?_⟩, hb4⟩
    · have hcc : 1 ≤ c7 ∧ c7 ≤ maxLen := by
        obtain ⟨-, h2 | ⟨g', cap', cur, h2, h3, h4, h5, h6, -⟩⟩ := hown
        · cases h2.1
        · cases h2
          exact ⟨h5, h6⟩
      refine ⟨_, c7, rfl, hcc.1, hcc.2, fun _ => ⟨g7, 0, rfl, by omega, fun i d' hi => ?_⟩⟩
      match i, hi with
      | 0, hi =>
        simp only [List.getElem?_cons_zero, Option.some.injEq] at hi
        subst hi
        refine ⟨hd, fun j x hj => ?_⟩
        have h1 := hrw j (.int .u8 x) (by simp [b8, hj])
        have h2 := (World.cell?_of_block (a := ⟨g7, 0 + j, none⟩) (ho g7 (by omega))).trans h1
        simpa using h2
    · refine ⟨_, cap, rfl, hcb.1, hcb.2, fun _ => ⟨V.heap.size + 1, 0, rfl, by omega, fun i r hi => ?_⟩⟩
      match i, hi with
      | 0, hi =>
        simp only [List.getElem?_cons_zero, Option.some.injEq] at hi
        subst hi
        exact ⟨_, (World.cell?_of_block (a := ⟨V.heap.size + 1, 0, none⟩) (ho (V.heap.size + 1) (by omega))).trans hpt, _, 0, rfl, by decide, by decide, fun h => absurd h (by decide)⟩
  have HF := Lib.hid (And.intro hfin hW6)
  clear hV2 t6 hown hvb hd hg7 hx1 b2 hbZ hZ b2' hU7 hU huo hub hU7' hU6 hrw hpt hW6 hfin
  rw [rounds_succ]
  go_wp2_with fail
  refine bodyPost_ret (v := .agg #[.int .i64 ver, .int .i64 ep, .slice (some ⟨g7, 0, none⟩) 1 c7, .slice (some ⟨V.heap.size + 1, 0, none⟩) 1 cap]) ?_ rfl HF.out.1
  exact results_row Tryz.underlying103 rfl (n := 4) (by kernel_rfl) Tryz.results42 (r := w.heap.size + 1) rfl HF.out.2 rfl
end Go.Proofs.YtdeccekeknlnoaaGreatDoor
