/- Chapter 38: sorting one exposure; the closure that asks for bad devices. | Chapter 38: a map of one entry. | Chapter 38: reach.Of of one grant. | Chapter 38: the law's devices. -/
import Derived.Test.YtdeccekeknlnoaaGreatDoorJHoB
import Derived.Test.YtdeccekeknlnoaaGreatDoorJReB
import Derived.WideMake
import Derived.Maps.RangeRun
namespace Go.Proofs.YtdeccekeknlnoaaGreatDoor
open Go.RowKit Go.Sort Go.Lib Go.Shelf
set_option maxRecDepth 100000 in
set_option maxHeartbeats 1000000 in
theorem bits_len1 (w : World) : Calls Tryz.prog 51 #[.int .u64 1] w fun e w' => e = .returned (.int .i64 1) ∧ w' = w := by
  have h := Any.bits_Len (SlLaysF0.n15.bits (P := Tryz.prog) (ρ := Tryz.laysSort_ren) { Tryz.laysSort with }) 1 w (by omega) (by omega)
  exact h
set_option maxRecDepth 100000 in
set_option maxHeartbeats 1000000 in
theorem ex_insert (g c : Nat) (fv : Value) (w : World) :
    Calls Tryz.prog 81 #[.slice (some ⟨g, 0, none⟩) 1 c, .int .i64 0, .int .i64 1, fv] w fun e w' => e = .returned (.tuple #[]) ∧ w' = w := by
  go_enter Tryz.func81, Tryz.ntmps81
  go_wp2
  refine wp_loop_rounds 1 ?_
  rw [rounds_succ]
  go_wp2
  go_end0
  exact ⟨rfl, rfl⟩
set_option maxRecDepth 100000 in
set_option maxHeartbeats 1000000 in
theorem ex_pdq (g c : Nat) (fv : Value) (w : World) :
    Calls Tryz.prog 50 #[.slice (some ⟨g, 0, none⟩) 1 c, .int .i64 0, .int .i64 1, .int .i64 1, fv] w fun e w' => e = .returned (.tuple #[]) ∧ w' = w := by
  have HI := Lib.hid fun W => ex_insert g c fv W
  go_enter Tryz.func50, Tryz.ntmps50
  go_wp2
  refine wp_loop_rounds 1 ?_
  rw [rounds_succ]
  go_wp2_with (go_at_call 81; refine (HI.out _).mono ?_; rintro e W1 ⟨rfl, hw⟩; subst hw)
  refine bodyPost_ret (results_none rfl _ _ _) rfl ?_
  exact ⟨rfl, rfl⟩
set_option maxRecDepth 100000 in
set_option maxHeartbeats 1000000 in
theorem ex_sort (g c : Nat) (fv : Value) (w : World) :
    Calls Tryz.prog 26 #[.slice (some ⟨g, 0, none⟩) 1 c, fv] w fun e w' => e = .returned (.tuple #[]) ∧ w' = w := by
  have HP := Lib.hid fun W => ex_pdq g c fv W
  have HB := Lib.hid fun W => bits_len1 W
  go_enter Tryz.func26, Tryz.ntmps26
  go_wp2_with (first
    | (go_at_call 51; refine (HB.out _).mono ?_; rintro e W1 ⟨rfl, hw⟩; subst hw)
    | (go_at_call 50; refine (HP.out _).mono ?_; rintro e W1 ⟨rfl, hw⟩; subst hw))
  go_end0
  exact ⟨rfl, rfl⟩
set_option maxRecDepth 1000000 in
set_option maxHeartbeats 1000000 in
/-- the closure of Of: is this device bad? -/
theorem of_bad (o : Option (Nat × List Nat)) (x : Dg) (db : Nat) (v : Value) (w : World) (hc : w.cell? ⟨db, 0, none⟩ = some v) (hv : Dir1 w v o) :
    Calls Tryz.prog 24 #[.agg (b8 x.val).toArray, .pointer (some ⟨db, 0, none⟩)] w fun e w' => e = .returned (.bool (lists o 4 x.val)) ∧ Below w.heap.size w w' := by
  obtain ⟨bo, hbo⟩ : ∃ y, lists o 4 x.val = y := ⟨_, rfl⟩
  obtain ⟨R, K, LD⟩ := letD
  obtain ⟨ev, hev⟩ : ∃ ev, (b8 x.val).toArray = ev := ⟨_, rfl⟩
  obtain ⟨X1, hX1⟩ : ∃ X1, w.alloc (.cells ev 39) = X1 := ⟨_, rfl⟩
  have hb0 : Below w.heap.size w X1 := by rw [← hX1]; exact Below.new _
  have e0 : X1.heap[w.heap.size]? = some (.cells ev 39 (0, 0)) := by rw [← hX1]; exact heap_alloc_new _ _
  have c0 : X1.cell? ⟨db, 0, none⟩ = some v := by rw [← hX1]; exact al_cell (.cells ev 39) hc
  have hr3 : X1.rangeAt w.heap.size 0 (b8 x.val) := fun j u hu => range_block e0 j u (by
    rw [← hev]
    exact hu)
  have hl3 := ld_mid (N := K) (n := 16) LD.sz hr3 (b8_16 x)
  have HR := Lib.hid (di_bad x.val x.property.1 o v _ (hv.below hb0))
  rw [hev] at hl3 HR
  rw [hbo] at HR ⊢
  rw [hev]
  have laR : ∀ w, Sem.run Tryz.prog (isAgg R) w = .ok true w := fun w => by rw [LD.ty]; exact Tryz.isAgg39 w
  have lzR : ∀ w, Sem.run Tryz.prog (sizeOf R) w = .ok K w := fun w => by rw [LD.ty, LD.sz]; exact Tryz.sizeOf39 w
  have o3 : ∀ x, Op.load 39 x = Op.load R x := fun x => by rw [LD.ty]
  have HB := Lib.hid hb0
  have HX1 := Lib.hid hX1
  clear hb0 e0 hr3 LD hc hv hev hbo hX1
  go_enter Tryz.func24, Tryz.ntmps24
  simp only [o3]
  clear o3
  go_upto_region 1 with fail
  rw [HX1.out]
  go_wp2_with (go_at_call 11; refine HR.out.mono ?_; rintro e W ⟨rfl, hb⟩)
  go_ret
  exact ⟨rfl, HB.out.trans (hb.mono HB.out.size)⟩
/-- is some device of the row bad? -/
theorem of_contains (o : Option (Nat × List Nat)) (l : List Dg) (hl : l.length ≤ 9223372036854775807) (g off c db : Nat) (v : Value) (w : World) (hdb : db < w.heap.size) (hc : w.cell? ⟨db, 0, none⟩ = some v) (hv : Dir1 w v o) (hg : g < w.heap.size) (hr : ∀ j x, l[j]? = some x → w.rangeAt g (off + j * 16) (b8 x.val)) :
    Calls Tryz.prog 25 #[.slice (some ⟨g, off, none⟩) l.length c, .func (.func 24) #[] #[.pointer (some ⟨db, 0, none⟩)]] w fun e w' => e = .returned (.bool (l.any fun x => lists o 4 x.val)) ∧ Below w.heap.size w w' := by
  have hp : PredBelow Tryz.prog 24 #[.pointer (some ⟨db, 0, none⟩)] (fun x => .agg (encD x).toArray) (fun x : Dg => lists o 4 x.val) w := fun W y hW => by
    refine (of_bad o y db v W ((hW.cell (p := ⟨db, 0, none⟩) hdb).trans hc) (hv.below hW)).mono ?_
    rintro e w' ⟨rfl, hb⟩
    exact ⟨rfl, hW.trans (hb.mono hW.size)⟩
  have := AnyQ.slices_ContainsFunc Tryz.laysContF 16 Tryz.isAgg39 Tryz.sizeOf39 encD encD_len (fun x : Dg => lists o 4 x.val) 24 #[.pointer (some ⟨db, 0, none⟩)] (enters_of Tryz.func24 (by kernel_rfl) rfl) g off l.length c l w hp (Nat.le_refl _) (by omega) hg (fun j hj i u hu => by
    have := hr j l[j] (List.getElem?_eq_getElem hj) i u (by
      rw [getElem!_pos l j hj] at hu
      exact hu)
    exact this)
  refine this.mono ?_
  rintro e w' ⟨rfl, hb⟩
  exact ⟨by rw [List.take_length], hb⟩
end Go.Proofs.YtdeccekeknlnoaaGreatDoor

namespace Go.Proofs.YtdeccekeknlnoaaGreatDoor
open Go.RowKit Go.Sort Go.Lib Go.Shelf
def e1 (s : Int) (b : Bool) : MapEntry := { key := .int .i64 s, val := .bool b, born := 0 }
def setB (w : World) (r : Nat) (o : Obj) : World := { w with heap := w.heap.setIfInBounds r o }
theorem setB_same {w : World} {r : Nat} {o : Obj} (h : r < w.heap.size) : (setB w r o).heap[r]? = some o := by simp [setB, h]
theorem setB_other {w : World} {r k : Nat} {o : Obj} (h : k ≠ r) : (setB w r o).heap[k]? = w.heap[k]? := by
  simp only [setB]
  rw [Array.getElem?_setIfInBounds_ne (Ne.symm h)]
theorem setB_size {w : World} {r : Nat} {o : Obj} : (setB w r o).heap.size = w.heap.size := by simp [setB]
theorem setB_below {w w' : World} {B r : Nat} {o : Obj} (h : Below B w w') (hr : B ≤ r) : Below B w (setB w' r o) := ⟨h.os, h.tape, h.output, by rw [setB_size]; exact h.size, fun k hk => (setB_other (by omega)).trans (h.block k hk)⟩
theorem m_lookup (m : Nat) (s : Int) (w : World) (h : w.heap[m]? = some (.map #[] 0)) : Sem.run Tryz.prog (Instr.lookup 74 (.map (some m)) (.int .i64 s) false) w = .ok (.bool false) w := by
  have hk := Tryz.underlying3
  have hf : Instr.findNow (.int .i64) (.int .i64 s) ([] : List MapEntry) 0 = some none := rfl
  have hc : (Instr.checkKey true 10000 3 (.int .i64 s)).run Tryz.prog w = .ok () w := MapKept.run_checkKey (k := .int .i64 s) hk (by simp [MapKept.IsKey]) true 9999
  have hz : Sem.run Tryz.prog (zeroValue 4) w = .ok (.bool false) w := Tryz.zeroValue4 w
  simp [Instr.lookup, run_underlying Tryz.underlying74, MapKept.run_getObj_map h, hc, MapKept.run_findKey hk hf, hz, Result.andThen]
theorem m_update (m : Nat) (s : Int) (b : Bool) (w : World) (h : w.heap[m]? = some (.map #[] 0)) : Sem.run Tryz.prog (Instr.mapUpdate 74 (.map (some m)) (.int .i64 s) (.bool b)) w = .ok () (setB w m (.map #[e1 s b] 1)) := by
  have hk := Tryz.underlying3
  have hf : Instr.findNow (.int .i64) (.int .i64 s) ([] : List MapEntry) 0 = some none := rfl
  have hc : (Instr.checkKey false 10000 3 (.int .i64 s)).run Tryz.prog w = .ok () w := MapKept.run_checkKey (k := .int .i64 s) hk (by simp [MapKept.IsKey]) false 9999
  simp [Instr.mapUpdate, run_underlying Tryz.underlying74, MapKept.run_getObj_map h, hc, MapKept.run_findKey hk hf, MapKept.run_setObj_map _ h, Result.andThen, setB, e1]
theorem m_range (m : Nat) (s : Int) (b : Bool) (w : World) (h : w.heap[m]? = some (.map #[e1 s b] 1)) : Sem.run Tryz.prog (Instr.range 74 (.map (some m))) w = .ok (.pointer (some ⟨w.heap.size, 0, none⟩)) (w.alloc (.mapIter (some m) 1 #[] 1)) :=
  run_range_map w _ _ _ m _ 1 Tryz.underlying74 h
theorem m_next (ty : TypeId) (m r : Nat) (s : Int) (b : Bool) (w : World) (hr : w.heap[r]? = some (.mapIter (some m) 1 #[] 1)) (h : w.heap[m]? = some (.map #[e1 s b] 1)) : Sem.run Tryz.prog (Instr.next (.pointer (some ⟨r, 0, none⟩)) false ty) w = .ok (.tuple #[.bool true, .int .i64 s, .bool b]) (setB w r (.mapIter (some m) 1 #[0] 1)) := by
  simp [Instr.next, getObj, Sem.run_bind, Sem.run, hr, h, Result.andThen, e1, choose, Question.forced, setObj, setB]
theorem m_over (ty : TypeId) (m r : Nat) (s : Int) (b : Bool) (w : World) (hr : w.heap[r]? = some (.mapIter (some m) 1 #[0] 1)) (h : w.heap[m]? = some (.map #[e1 s b] 1)) : Sem.run Tryz.prog (Instr.next (.pointer (some ⟨r, 0, none⟩)) false ty) w = .ok (.tuple #[.bool false]) w := by
  simp [Instr.next, getObj, Sem.run_bind, Sem.run, hr, h, Result.andThen, e1, choose, Question.forced]
theorem m_entry (m r : Nat) (s : Int) (b : Bool) (w : World) (hr : w.heap[r]? = some (.mapIter (some m) 1 #[0] 1)) (h : w.heap[m]? = some (.map #[e1 s b] 1)) : Sem.run Tryz.prog (Instr.entry (.pointer (some ⟨r, 0, none⟩))) w = .ok (.tuple #[.int .i64 s, .bool b]) w :=
  run_entry_at w r m 1 #[] #[e1 s b] 1 (e1 s b) hr h (by simp) (by simp)
end Go.Proofs.YtdeccekeknlnoaaGreatDoor

namespace Go.Proofs.YtdeccekeknlnoaaGreatDoor
open Go.RowKit Go.Sort Go.Lib Go.Shelf
theorem MvAt.below {w w' : World} {A : Option Addr} {ms : List (Int × Dg × Dg)} (h : MvAt w A ms) (hb : Below w.heap.size w w') : MvAt w' A ms := fun i m hi => by
  obtain ⟨b, off, hA, hlt, hr⟩ := h i m hi
  exact ⟨b, off, hA, Nat.lt_of_lt_of_le hlt hb.size, fun j u hu => (hb.cell (p := ⟨b, _, none⟩) hlt).trans (hr j u hu)⟩
theorem rd_some {w : World} {B : Nat} {v : Value} {l : List Dg} (h : RDigs w B v (l.map (·.val))) (hn : 0 < l.length) : ∃ b off c, v = .slice (some ⟨b, off, none⟩) l.length c ∧ l.length ≤ c ∧ c ≤ maxLen ∧ b < B ∧ ∀ j (x : Dg), l[j]? = some x → w.rangeAt b (off + j * 16) (b8 x.val) := by
  obtain ⟨A, c, h1, h2, h3, h4⟩ := h
  rw [List.length_map] at h1 h2 h4
  obtain ⟨b, off, rfl, hlt, hc⟩ := h4 hn
  refine ⟨b, off, c, h1, h2, h3, hlt, fun j x hx i u hu => ?_⟩
  obtain ⟨-, h5⟩ := hc j x.val (by rw [List.getElem?_map, hx]; rfl)
  simp only [b8, List.getElem?_map] at hu
  obtain ⟨y, hy, rfl⟩ := Option.map_eq_some_iff.1 hu
  exact h5 i y hy
theorem norm_pos {a l : List Dg} (h : Norm a l) (hn : 0 < a.length) : 0 < l.length := by
  have : a[0] ∈ l := (h.mem _).2 (List.getElem_mem _)
  exact List.length_pos_of_mem this
theorem three_cells {w : World} {p : Nat} {x0 x1 x2 : Value} {t : TypeId} (h : w.heap[p]? = some (.cells #[x0, x1, x2] t (0, 0))) :
    w.cell? ⟨p, 0, none⟩ = some x0 ∧ w.cell? ⟨p, 1, none⟩ = some x1 ∧ w.cell? ⟨p, 2, none⟩ = some x2 ∧ ∀ o, w.frozen? ⟨p, o, none⟩ = false := by
  have r := range_block h
  have r0 := r 0 _ rfl
  have r1 := r 1 _ rfl
  have r2 := r 2 _ rfl
  simp only [Nat.zero_add] at r0 r1 r2
  exact ⟨r0, r1, r2, fun o => by simp [World.frozen?, h]⟩
/-- one exposure -/
def ExpAt (w : World) (x : Value) (s st : Int) (l : List Dg) : Prop := ∃ g c hv, x = .slice (some ⟨g, 0, none⟩) 1 c ∧ g < w.heap.size ∧ c ≤ maxLen ∧ 1 ≤ c ∧ w.rangeAt g 0 [.int .i64 s, .int .i64 st, hv] ∧ RDigs w w.heap.size hv (l.map (·.val))
def OfSay (w : World) (o : Option (Nat × List Nat)) (q : List Nat) (s : Int) (hs : List Dg) (e : Ending) (w' : World) : Prop :=
  ∃ x l, e = .returned (.tuple #[x, .int .i64 0]) ∧ Norm hs l ∧ ExpAt w' x s (if l.any (fun x => lists o 4 x.val) then 2 else if lists o 3 q then 1 else 0) l ∧ Below w.heap.size w w'
theorem of_close {w W8 Y Z : World} {o : Option (Nat × List Nat)} {q : List Nat} {s st : Int} {hs l : List Dg} {hv : Value} {zs : Array Value} {o1 : Obj} {cap : Nat} {t : TypeId} (hbw : Below w.heap.size w Y) (hb8 : Below W8.heap.size W8 Y) (hn : Norm hs l) (hd : RDigs W8 W8.heap.size hv (l.map (·.val)))
    (hZ : ((Y.alloc o1).alloc (.cells (#[.int .i64 s, .int .i64 st, hv] ++ zs) t)).drew = Z) (hcap : 1 ≤ cap) (hcm : cap ≤ maxLen) (hst : st = if l.any (fun x => lists o 4 x.val) then 2 else if lists o 3 q then 1 else 0) :
    OfSay w o q s hs (.returned (.tuple #[.slice (some ⟨Y.heap.size + 1, 0, none⟩) 1 cap, .int .i64 0])) Z := by
  have hY : Below Y.heap.size Y Z := by rw [← hZ]; exact ((Below.new _).trans ((Below.new _).mono (by simp))).drew
  have e : Z.heap[Y.heap.size + 1]? = some (.cells (#[.int .i64 s, .int .i64 st, hv] ++ zs) t (0, 0)) := by
    rw [← hZ]
    have := heap_alloc_new (Y.alloc o1) (.cells (#[.int .i64 s, .int .i64 st, hv] ++ zs) t)
    rw [World.size_alloc] at this
    exact this
  have hZ8 := hb8.trans (hY.mono hb8.size)
  refine ⟨_, l, rfl, hn, ⟨_, _, hv, rfl, lt_of_block e, hcm, hcap, fun j u hu => range_block e j u ?_, RDigs.mono (RDigs.below hd hZ8) hZ8.size⟩, hbw.trans (hY.mono hbw.size)⟩
  rw [← hst] at hu
  rw [Array.toList_append, List.getElem?_append_left (List.getElem?_eq_some_iff.1 hu).1]
  exact hu
theorem build_exp (a : Int) (A : Option Addr) (n c : Nat) (w : World) : Sem.run Tryz.prog (Instr.build 36 #[(0, .int .i64 a), (2, .slice A n c)]) w = .ok (.agg #[.int .i64 a, .int .i64 0, .slice A n c]) w := by kernel_rfl
set_option maxRecDepth 1000000 in
set_option maxHeartbeats 16000000 in
theorem of_one {Ks : List Int} {st : V8} (o : Option (Nat × List Nat)) (v : Value) (s : Int) (dev : Dg) (r : List Value) (hr : r.length = 3) (hr1 : ∀ u ∈ r, u.oneCell' = true) (bb cb eb ce ms mc sg cg : Nat) (mv : List (Int × Dg × Dg)) (A : Option Addr) (gb gp mp : Nat) (w : World)
    (hg : Gl w) (hs : ShaG w Ks st) (hv : GlV w) (hd : Dir1 w v o) (hG : GrAt w (grl s dev r).toArray bb cb eb ce ms mc sg cg) (hgr : w.rangeAt gb 0 (grl s dev r)) (hgb : gb < w.heap.size) (hm : MvAt w A mv) (hl : mv.length ≤ 1000) :
    Calls Tryz.prog 10 #[.agg #[v], .slice (some ⟨gb, 0, none⟩) 1 gp, .slice A mv.length mp] w (OfSay w o (stageD Ks st acc) s (accTo s dev mv mv.length)) := by
  obtain ⟨S, hS⟩ : ∃ S : Ending → World → Prop, OfSay w o (stageD Ks st acc) s (accTo s dev mv mv.length) = S := ⟨_, rfl⟩
  rw [hS]
  have HSS := Lib.hid hS
  obtain ⟨G, NG, M, NM, R, K, L⟩ := letH
  have hgl : (grl s dev r).length = 20 := by simp [grl, b8_16, hr]
  have hg1 : ∀ u ∈ grl s dev r, u.oneCell' = true := fun u hu => by
    simp only [grl, List.mem_cons, List.mem_append] at hu
    rcases hu with rfl | hu | hu
    · rfl
    · exact b8_one _ u hu
    · exact hr1 u hu
  obtain ⟨gv, hgv⟩ : ∃ gv, (grl s dev r).toArray = gv := ⟨_, rfl⟩
  have hgs : gv.size = 20 := by rw [← hgv]; simpa using hgl
  have hgsN : gv.size = NG := by rw [hgs, L.szG]
  have laG : ∀ w, Sem.run Tryz.prog (isAgg G) w = .ok true w := fun w => by rw [L.tyG]; exact Tryz.isAgg43 w
  have lzG : ∀ w, Sem.run Tryz.prog (sizeOf G) w = .ok NG w := fun w => by rw [L.tyG, L.szG]; exact Tryz.sizeOf43 w
  have o1 : ∀ x, Op.load 43 x = Op.load G x := fun x => by rw [L.tyG]
  have o2 : ∀ x y, Op.store 43 x y = Op.store G x y := fun x y => by rw [L.tyG]
  have hmk : ∀ w, (Instr.makeMap 74 none).run Tryz.prog w = .ok (.map (some w.heap.size)) (w.alloc (.map #[] 0)) := fun _ => rfl
  have hmf : ∀ (fn : Fn) (first cap : Array Value) (w : World), (Instr.makeFunc fn first cap).run Tryz.prog w = .ok (.func fn first cap) w := fun _ _ _ _ => rfl
  -- the world ahead of the first call
  obtain ⟨W2, hW2⟩ : ∃ X, (w.alloc (.cells #[v] 24)).alloc (.map #[] 0) = X := ⟨_, rfl⟩
  have hb2 : Below w.heap.size w W2 := by rw [← hW2]; exact (Below.new _).trans ((Below.new _).mono (by simp))
  have hs2 : W2.heap.size = w.heap.size + 2 := by rw [← hW2]; simp
  have em2 : W2.heap[w.heap.size + 1]? = some (.map #[] 0) := by
    rw [← hW2]
    have := heap_alloc_new (w.alloc (.cells #[v] 24)) (.map #[] 0)
    rwa [World.size_alloc] at this
  have ed2 : W2.heap[w.heap.size]? = some (.cells #[v] 24 (0, 0)) := by rw [← hW2]; exact (Below.heap_alloc _ _ _ (by simp)).trans (heap_alloc_new _ _)
  have hg2 : W2.rangeAt gb 0 (grl s dev r) := fun j u hu => (hb2.cell (p := ⟨gb, 0 + j, none⟩) hgb).trans (hgr j u hu)
  have hl1 := ld_mid (N := NG) (n := 20) L.szG hg2 hgl
  rw [hgv] at hl1
  have hs1 := st_new (w := W2) (cs := gv) (z := #[.int .i64 0, .int .u8 0, .int .u8 0, .int .u8 0, .int .u8 0, .int .u8 0, .int .u8 0, .int .u8 0, .int .u8 0, .int .u8 0, .int .u8 0, .int .u8 0, .int .u8 0, .int .u8 0, .int .u8 0, .int .u8 0, .int .u8 0, .string ⟨#[]⟩, .slice none 0 0, .slice none 0 0]) (t := 43) (by rw [hgs]; rfl) (by rw [← hgv, Array.all_eq_true_iff_forall_mem]; intro u hu; exact hg1 u (by simpa using hu))
  obtain ⟨W3, hW3⟩ : ∃ X, W2.alloc (.cells gv 43) = X := ⟨_, rfl⟩
  have hb23 : Below W2.heap.size W2 W3 := by rw [← hW3]; exact Below.new _
  have eg3 : W3.heap[w.heap.size + 2]? = some (.cells gv 43 (0, 0)) := by rw [← hW3, ← hs2]; exact heap_alloc_new _ _
  have em3 := (hb23.block _ (lt_of_block em2)).trans em2
  have ed3 := (hb23.block _ (lt_of_block ed2)).trans ed2
  have hb3 : Below w.heap.size w W3 := hb2.trans (hb23.mono hb2.size)
  have hlg3 := ld_mid (N := NG) (n := 20) L.szG (range_block eg3) (by simpa using hgs)
  have hld3 : W3.cell? ⟨w.heap.size, 0, none⟩ = some v := (one_cell ed3).1
  rw [show gv.toList.toArray = gv by simp] at hlg3
  have HK := Lib.hid (show ∀ V, Below w.heap.size w V → Gl V ∧ ShaG V Ks st ∧ GlV V ∧ Dir1 V v o ∧ GrAt V gv bb cb eb ce ms mc sg cg ∧ V.rangeAt gb 0 (grl s dev r) ∧ MvAt V A mv from fun V hV => by
    rw [← hgv]
    exact ⟨hg.mem hV, hs.below hV hs.size, hv.mem hV, hd.below hV, hG.below hV, fun j u hu => (hV.cell (p := ⟨gb, 0 + j, none⟩) hgb).trans (hgr j u hu), hm.below hV⟩)
  have HOP := Lib.hid (show Calls Tryz.prog 21 #[.agg #[v], .agg gv] W3 fun e w' => e = .returned (.tuple #[.bool (lists o 3 (stageD Ks st acc)), .int .i64 0]) ∧ Below W3.heap.size W3 w' from by
    obtain ⟨k1, k2, k3, k4, k5, -⟩ := HK.out W3 hb3
    exact re_opened o v gv bb cb eb ce ms mc sg cg W3 k1 k2 k3 k4 k5)
  have H3 := Lib.hid (And.intro hb3 (And.intro em3 (And.intro ed3 (And.intro eg3 (lt_of_block eg3)))))
  have HW2 := Lib.hid hW2
  have HW3 := Lib.hid hW3
  have HSZ := Lib.hid hs2
  have HR := Lib.hid (And.intro hr (And.intro hr1 hl))
  have c3 : W3.cell? ⟨w.heap.size + 2, 0, none⟩ = some (.int .i64 s) := by
    have := range_block eg3 0 (.int .i64 s) (by rw [← hgv]; rfl)
    simpa using this
  obtain ⟨bo, hbo⟩ : ∃ y, lists o 3 (stageD Ks st acc) = y := ⟨_, rfl⟩
  have HBO := Lib.hid hbo
  rw [hbo] at HOP
  obtain ⟨n, hn⟩ : ∃ n, mv.length = n := ⟨_, rfl⟩
  have HN := Lib.hid hn
  rw [hn] at ⊢
  clear hS hgl hg1 hgv hgs L hb2 hs2 em2 ed2 hg2 hb23 eg3 em3 ed3 hb3 hg hs hv hd hG hgr hgb hm hl hr hr1 hbo hn hW2 hW3
  go_enter Tryz.func10, Tryz.ntmps10
  simp only [o1, o2]
  clear o1 o2
  go_upto_region 2 with fail
  simp only [HW2.out]
  go_wp2_with fail
  refine wp_loop_rounds 2 ?_
  rw [rounds_succ]
  go_upto_region 5 with fail
  simp only [HW3.out, HSZ.out]
  go_upto_region 8 with (go_at_call 21; refine HOP.out.mono ?_; rintro e W4 ⟨rfl, hb4⟩)
  obtain ⟨hb3, em3, ed3, eg3, hl3⟩ := H3.out
  have hb4w : Below w.heap.size w W4 := hb3.trans (hb4.mono hb3.size)
  have em4 := (hb4.block _ (lt_of_block em3)).trans em3
  have ed4 := (hb4.block _ (lt_of_block ed3)).trans ed3
  have c4 : W4.cell? ⟨w.heap.size + 2, 0, none⟩ = some (.int .i64 s) := (hb4.cell (p := ⟨w.heap.size + 2, 0, none⟩) hl3).trans c3
  have hlk := m_lookup (w.heap.size + 1) s W4 em4
  have hup := m_update (w.heap.size + 1) s bo W4 em4
  obtain ⟨W5, hW5⟩ : ∃ X, setB W4 (w.heap.size + 1) (.map #[e1 s bo] 1) = X := ⟨_, rfl⟩
  rw [hW5] at hup
  have em5 : W5.heap[w.heap.size + 1]? = some (.map #[e1 s bo] 1) := by rw [← hW5]; exact setB_same (lt_of_block em4)
  have ed5 : W5.heap[w.heap.size]? = some (.cells #[v] 24 (0, 0)) := by rw [← hW5, setB_other (by omega)]; exact ed4
  have hb5 : Below w.heap.size w W5 := by rw [← hW5]; exact setB_below hb4w (by omega)
  have hrg := m_range (w.heap.size + 1) s bo W5 em5
  obtain ⟨W6, hW6⟩ : ∃ X, W5.alloc (.mapIter (some (w.heap.size + 1)) 1 #[] 1) = X := ⟨_, rfl⟩
  have hb56 : Below W5.heap.size W5 W6 := by rw [← hW6]; exact Below.new _
  have ei6 : W6.heap[W5.heap.size]? = some (.mapIter (some (w.heap.size + 1)) 1 #[] 1) := by rw [← hW6]; exact heap_alloc_new _ _
  have em6 := (hb56.block _ (lt_of_block em5)).trans em5
  have ed6 := (hb56.block _ (lt_of_block ed5)).trans ed5
  have hnx := fun ty => m_next ty (w.heap.size + 1) W5.heap.size s bo W6 ei6 em6
  obtain ⟨W7, hW7⟩ : ∃ X, setB W6 W5.heap.size (.mapIter (some (w.heap.size + 1)) 1 #[0] 1) = X := ⟨_, rfl⟩
  rw [hW6] at hrg
  simp only [hW7] at hnx
  have hi5 : w.heap.size + 1 < W5.heap.size := lt_of_block em5
  have ei7 : W7.heap[W5.heap.size]? = some (.mapIter (some (w.heap.size + 1)) 1 #[0] 1) := by rw [← hW7]; exact setB_same (lt_of_block ei6)
  have em7 : W7.heap[w.heap.size + 1]? = some (.map #[e1 s bo] 1) := by rw [← hW7, setB_other (by omega)]; exact em6
  have ed7 : W7.heap[w.heap.size]? = some (.cells #[v] 24 (0, 0)) := by rw [← hW7, setB_other (by omega)]; exact ed6
  have hb7 : Below w.heap.size w W7 := by rw [← hW7]; exact setB_below (hb5.trans (hb56.mono hb5.size)) (by have := hb5.size; omega)
  have hen := m_entry (w.heap.size + 1) W5.heap.size s bo W7 ei7 em7
  have HHO := Lib.hid (show Calls Tryz.prog 15 #[.slice (some ⟨gb, 0, none⟩) 1 gp, .slice A n mp, .int .i64 s] W7 (HoldSay W7 (accTo s dev mv mv.length)) from by
    obtain ⟨-, -, -, -, -, k6, k7⟩ := HK.out W7 hb7
    have := ho_some s dev r HR.out.1 HR.out.2.1 mv gb gp mp A W7 k6 k7 HR.out.2.2
    rw [HN.out] at this ⊢
    exact this)
  have H7 := Lib.hid (And.intro hb7 (And.intro ei7 (And.intro em7 (And.intro ed7 hi5))))
  clear hb3 em3 ed3 eg3 hl3 hb4 hb4w em4 ed4 c3 hW5 em5 ed5 hb5 hW6 hb56 ei6 em6 ed6 hW7 hi5 ei7 em7 ed7 hb7 hlg3 hld3 hs1 hl1
  go_wp2_with fail
  rw [rounds_succ]
  go_wp2_with fail
  refine wp_loop_rounds 2 ?_
  rw [rounds_succ]
  go_wp2_with fail
  refine HHO.out.mono ?_
  rintro e W8 ⟨hv8, l, rfl, hnorm, hdg, hb8⟩
  obtain ⟨b8', f8, c8, hv8e, hc8, hm8, hlt8, hr8⟩ := rd_some hdg (norm_pos hnorm (accTo_len s dev mv mv.length (Nat.le_refl _)).1)
  subst hv8e
  obtain ⟨hb7, ei7, em7, ed7, hi5⟩ := H7.out
  have ei8 := (hb8.block _ (lt_of_block ei7)).trans ei7
  have em8 := (hb8.block _ (lt_of_block em7)).trans em7
  have ed8 := (hb8.block _ (lt_of_block ed7)).trans ed7
  have hb8w := hb7.trans (hb8.mono hb7.size)
  obtain ⟨W9, hW9⟩ : ∃ X, W8.alloc (.cells #[.int .i64 s, .int .i64 0, .slice (some ⟨b8', f8, none⟩) l.length c8] 36) = X := ⟨_, rfl⟩
  have hb89 : Below W8.heap.size W8 W9 := by rw [← hW9]; exact Below.new _
  have ex9 : W9.heap[W8.heap.size]? = some (.cells #[.int .i64 s, .int .i64 0, .slice (some ⟨b8', f8, none⟩) l.length c8] 36 (0, 0)) := by rw [← hW9]; exact heap_alloc_new _ _
  have ei9 := (hb89.block _ (lt_of_block ei8)).trans ei8
  have em9 := (hb89.block _ (lt_of_block em8)).trans em8
  have ed9 := (hb89.block _ (lt_of_block ed8)).trans ed8
  have hb9w := hb8w.trans (hb89.mono hb8w.size)
  have HCF := Lib.hid (show Calls Tryz.prog 25 #[.slice (some ⟨b8', f8, none⟩) l.length c8, .func (.func 24) #[] #[.pointer (some ⟨w.heap.size, 0, none⟩)]] W9 fun e w' => e = .returned (.bool (l.any fun x => lists o 4 x.val)) ∧ Below W9.heap.size W9 w' from
    of_contains o l (by unfold maxLen at hm8; omega) b8' f8 c8 w.heap.size v W9 (lt_of_block ed9) (one_cell ed9).1 (HK.out W9 hb9w).2.2.2.1 (Nat.lt_of_lt_of_le hlt8 hb89.size) (fun j x hx i u hu => (hb89.cell (p := ⟨b8', _, none⟩) hlt8).trans (hr8 j x hx i u hu)))
  have hbe := fun w => build_exp s (some ⟨b8', f8, none⟩) l.length c8 w
  have HBE := Lib.hid (show ∀ V, Below W9.heap.size W9 V → Below w.heap.size w V ∧ V.heap[W5.heap.size]? = some (.mapIter (some (w.heap.size + 1)) 1 #[0] 1) ∧ V.heap[w.heap.size + 1]? = some (.map #[e1 s bo] 1) ∧ V.heap[W8.heap.size]? = some (.cells #[.int .i64 s, .int .i64 0, .slice (some ⟨b8', f8, none⟩) l.length c8] 36 (0, 0)) ∧ Below W8.heap.size W8 V from fun V hV => by
    refine ⟨hb9w.trans (hV.mono hb9w.size), (hV.block _ (lt_of_block ei9)).trans ei9, (hV.block _ (lt_of_block em9)).trans em9, (hV.block _ (lt_of_block ex9)).trans ex9, ?_⟩
    exact hb89.trans (hV.mono hb89.size))
  have HDG := Lib.hid hdg
  have HX := Lib.hid (And.intro hnorm (And.intro hm8 (And.intro hc8 (And.intro (show w.heap.size ≤ W8.heap.size from hb8w.size) (show W5.heap.size < W8.heap.size from lt_of_block ei8)))))
  have HW9 := Lib.hid hW9
  have x2 : W9.cell? ⟨W8.heap.size, 2, none⟩ = some (.slice (some ⟨b8', f8, none⟩) l.length c8) := by
    have := range_block ex9 2 _ rfl
    simpa using this
  obtain ⟨ba, hba⟩ : ∃ y, l.any (fun x => lists o 4 x.val) = y := ⟨_, rfl⟩
  have HBA := Lib.hid hba
  rw [hba] at HCF
  obtain ⟨n8, hn8⟩ : ∃ n8, l.length = n8 := ⟨_, rfl⟩
  rw [hn8] at HCF HBE HX HW9 x2 hbe HDG ⊢
  clear hnorm hdg hb8 hc8 hm8 hlt8 hr8 hb7 ei7 em7 ed7 hi5 ei8 em8 ed8 hb8w hb89 ex9 ei9 em9 ed9 hb9w hW9 hba
  go_upto_region 16 with fail
  simp only [HW9.out]
  go_wp2_with (go_at_call 25; refine HCF.out.mono ?_; rintro e W10 ⟨rfl, hb10⟩; obtain ⟨hbw, ei, em, ex, hb8⟩ := HBE.out W10 hb10; obtain ⟨z0, z1, z2, zf⟩ := three_cells ex; have HB10 := Lib.hid (And.intro hbw (And.intro ei (And.intro em (And.intro ex hb8)))); clear hbw ei em ex hb8 hb10; revert HBA; cases ba <;> intro HBA; revert HBO; cases bo <;> intro HBO)
  · obtain ⟨hbw, ei, em, ex, hb8⟩ := HB10.out
    obtain ⟨cap, hcap⟩ : ∃ cap, ((Question.appendCap 1 0 36).cut (W10.tape W10.drawn (Question.appendCap 1 0 36))) = cap := ⟨_, rfl⟩
    have hcb : 1 ≤ cap ∧ cap ≤ maxLen := by
      rw [← hcap]
      simp only [Question.cut, maxLen]
      omega
    rw [hcap]
    obtain ⟨Y, hY⟩ : ∃ Y, W10 = Y := ⟨_, rfl⟩
    have hYs : Y.heap.size = W10.heap.size := by rw [← hY]
    have hYo : ∀ k, k ≠ W8.heap.size → Y.heap[k]? = W10.heap[k]? := fun k hk => by rw [← hY]
    have hYw : Below w.heap.size w Y := by rw [← hY]; exact hbw
    have hY8 : Below W8.heap.size W8 Y := by rw [← hY]; exact hb8
    rw [show W10 = Y from hY]
    obtain ⟨Z, hZ⟩ : ∃ Z, ((Y.alloc (.cells #[.int .i64 s, .int .i64 0, .slice (some ⟨b8', f8, none⟩) n8 c8] 36)).alloc (.cells (#[.int .i64 s, .int .i64 0, .slice (some ⟨b8', f8, none⟩) n8 c8] ++ Builtin.zeroCells #[.int .i64 0, .int .i64 0, .slice none 0 0] (cap - 1)) 36)).drew = Z := ⟨_, rfl⟩
    have hYZ : Below Y.heap.size Y Z := by rw [← hZ]; exact ((Below.new _).trans ((Below.new _).mono (by simp))).drew
    have h5 := HX.out.2.2.2.2
    have h1 := H7.out.2.2.2.2
    have ei' := (hYo W5.heap.size (by omega)).trans ei
    have em' := (hYo (w.heap.size + 1) (by omega)).trans em
    have eiZ := (hYZ.block _ (lt_of_block ei')).trans ei'
    have emZ := (hYZ.block _ (lt_of_block em')).trans em'
    have hov := fun ty => m_over ty (w.heap.size + 1) W5.heap.size s _ Z eiZ emZ
    have HXS := Lib.hid (ex_sort (Y.heap.size + 1) cap (.func (.func 27) #[] #[]) Z)
    have HFIN := Lib.hid (show S (.returned (.tuple #[.slice (some ⟨Y.heap.size + 1, 0, none⟩) 1 cap, .int .i64 0])) Z from by
      rw [← HSS.out]
      exact of_close (hs := accTo s dev mv mv.length) hYw hY8 HX.out.1 HDG.out hZ hcb.1 hcb.2 (by rw [HBA.out, HBO.out]; rfl))
    rw [hZ]
    clear hbw ei em ex hb8 hcap hYs hYo hYw hY8 hYZ h5 h1 ei' em' eiZ emZ z0 z1 z2 zf hY hZ
    rw [rounds_succ]
    go_wp2_with (go_at_call 26; refine HXS.out.mono ?_; rintro e W11 ⟨rfl, hw⟩; subst hw)
    exact HFIN.out
  · obtain ⟨hbw, ei, em, ex, hb8⟩ := HB10.out
    obtain ⟨cap, hcap⟩ : ∃ cap, ((Question.appendCap 1 0 36).cut (W10.tape W10.drawn (Question.appendCap 1 0 36))) = cap := ⟨_, rfl⟩
    have hcb : 1 ≤ cap ∧ cap ≤ maxLen := by
      rw [← hcap]
      simp only [Question.cut, maxLen]
      omega
    rw [hcap]
    obtain ⟨Y, hY⟩ : ∃ Y, W10.setCell ⟨W8.heap.size, 1, none⟩ (.int .i64 1) = Y := ⟨_, rfl⟩
    have hYs : Y.heap.size = W10.heap.size := by rw [← hY]; simp [World.setCell]
    have hYo : ∀ k, k ≠ W8.heap.size → Y.heap[k]? = W10.heap[k]? := fun k hk => by rw [← hY]; exact set_other _ _ _ _ _ hk
    have hYw : Below w.heap.size w Y := by rw [← hY]; exact hbw.setCell (p := ⟨W8.heap.size, 1, none⟩) HX.out.2.2.2.1 _
    have hY8 : Below W8.heap.size W8 Y := by rw [← hY]; exact hb8.setCell (p := ⟨W8.heap.size, 1, none⟩) (Nat.le_refl _) _
    rw [hY, ← hYs]
    obtain ⟨Z, hZ⟩ : ∃ Z, ((Y.alloc (.cells #[.int .i64 s, .int .i64 1, .slice (some ⟨b8', f8, none⟩) n8 c8] 36)).alloc (.cells (#[.int .i64 s, .int .i64 1, .slice (some ⟨b8', f8, none⟩) n8 c8] ++ Builtin.zeroCells #[.int .i64 0, .int .i64 0, .slice none 0 0] (cap - 1)) 36)).drew = Z := ⟨_, rfl⟩
    have hYZ : Below Y.heap.size Y Z := by rw [← hZ]; exact ((Below.new _).trans ((Below.new _).mono (by simp))).drew
    have h5 := HX.out.2.2.2.2
    have h1 := H7.out.2.2.2.2
    have ei' := (hYo W5.heap.size (by omega)).trans ei
    have em' := (hYo (w.heap.size + 1) (by omega)).trans em
    have eiZ := (hYZ.block _ (lt_of_block ei')).trans ei'
    have emZ := (hYZ.block _ (lt_of_block em')).trans em'
    have hov := fun ty => m_over ty (w.heap.size + 1) W5.heap.size s _ Z eiZ emZ
    have HXS := Lib.hid (ex_sort (Y.heap.size + 1) cap (.func (.func 27) #[] #[]) Z)
    have HFIN := Lib.hid (show S (.returned (.tuple #[.slice (some ⟨Y.heap.size + 1, 0, none⟩) 1 cap, .int .i64 0])) Z from by
      rw [← HSS.out]
      exact of_close (hs := accTo s dev mv mv.length) hYw hY8 HX.out.1 HDG.out hZ hcb.1 hcb.2 (by rw [HBA.out, HBO.out]; rfl))
    rw [hZ]
    clear hbw ei em ex hb8 hcap hYs hYo hYw hY8 hYZ h5 h1 ei' em' eiZ emZ z0 z1 z2 zf hY hZ
    rw [rounds_succ]
    go_wp2_with (go_at_call 26; refine HXS.out.mono ?_; rintro e W11 ⟨rfl, hw⟩; subst hw)
    exact HFIN.out
  · obtain ⟨hbw, ei, em, ex, hb8⟩ := HB10.out
    obtain ⟨cap, hcap⟩ : ∃ cap, ((Question.appendCap 1 0 36).cut (W10.tape W10.drawn (Question.appendCap 1 0 36))) = cap := ⟨_, rfl⟩
    have hcb : 1 ≤ cap ∧ cap ≤ maxLen := by
      rw [← hcap]
      simp only [Question.cut, maxLen]
      omega
    rw [hcap]
    obtain ⟨Y, hY⟩ : ∃ Y, W10.setCell ⟨W8.heap.size, 1, none⟩ (.int .i64 2) = Y := ⟨_, rfl⟩
    have hYs : Y.heap.size = W10.heap.size := by rw [← hY]; simp [World.setCell]
    have hYo : ∀ k, k ≠ W8.heap.size → Y.heap[k]? = W10.heap[k]? := fun k hk => by rw [← hY]; exact set_other _ _ _ _ _ hk
    have hYw : Below w.heap.size w Y := by rw [← hY]; exact hbw.setCell (p := ⟨W8.heap.size, 1, none⟩) HX.out.2.2.2.1 _
    have hY8 : Below W8.heap.size W8 Y := by rw [← hY]; exact hb8.setCell (p := ⟨W8.heap.size, 1, none⟩) (Nat.le_refl _) _
    rw [hY, ← hYs]
    obtain ⟨Z, hZ⟩ : ∃ Z, ((Y.alloc (.cells #[.int .i64 s, .int .i64 2, .slice (some ⟨b8', f8, none⟩) n8 c8] 36)).alloc (.cells (#[.int .i64 s, .int .i64 2, .slice (some ⟨b8', f8, none⟩) n8 c8] ++ Builtin.zeroCells #[.int .i64 0, .int .i64 0, .slice none 0 0] (cap - 1)) 36)).drew = Z := ⟨_, rfl⟩
    have hYZ : Below Y.heap.size Y Z := by rw [← hZ]; exact ((Below.new _).trans ((Below.new _).mono (by simp))).drew
    have h5 := HX.out.2.2.2.2
    have h1 := H7.out.2.2.2.2
    have ei' := (hYo W5.heap.size (by omega)).trans ei
    have em' := (hYo (w.heap.size + 1) (by omega)).trans em
    have eiZ := (hYZ.block _ (lt_of_block ei')).trans ei'
    have emZ := (hYZ.block _ (lt_of_block em')).trans em'
    have hov := fun ty => m_over ty (w.heap.size + 1) W5.heap.size s _ Z eiZ emZ
    have HXS := Lib.hid (ex_sort (Y.heap.size + 1) cap (.func (.func 27) #[] #[]) Z)
    have HFIN := Lib.hid (show S (.returned (.tuple #[.slice (some ⟨Y.heap.size + 1, 0, none⟩) 1 cap, .int .i64 0])) Z from by
      rw [← HSS.out]
      exact of_close (hs := accTo s dev mv mv.length) hYw hY8 HX.out.1 HDG.out hZ hcb.1 hcb.2 (by rw [HBA.out]; rfl))
    rw [hZ]
    clear hbw ei em ex hb8 hcap hYs hYo hYw hY8 hYZ h5 h1 ei' em' eiZ emZ z0 z1 z2 zf hY hZ
    rw [rounds_succ]
    go_wp2_with (go_at_call 26; refine HXS.out.mono ?_; rintro e W11 ⟨rfl, hw⟩; subst hw)
    exact HFIN.out
end Go.Proofs.YtdeccekeknlnoaaGreatDoor

namespace Go.Proofs.YtdeccekeknlnoaaGreatDoor
open Go.RowKit Go.Sort Go.Lib Go.Shelf
def devL (k : Nat) : List Nat := 9 :: k :: List.replicate 14 0
theorem build_dev (k : Nat) (w : World) : Sem.run Tryz.prog (Instr.build 39 #[(0, .int .u8 9), (1, .int .u8 k)]) w = .ok (.agg (b8 (devL k)).toArray) w := by kernel_rfl
set_option maxRecDepth 1000000 in
set_option maxHeartbeats 400000 in
theorem lw_device (k : Nat) (w : World) : Calls Tryz.prog 14 #[.int .u8 k] w fun e w' => e = .returned (.agg (b8 (devL k)).toArray) ∧ Below w.heap.size w w' := by
  obtain ⟨R, K, LD⟩ := letD
  obtain ⟨dv, hdv⟩ : ∃ dv, (b8 (devL k)).toArray = dv := ⟨_, rfl⟩
  have hbd := build_dev k
  have hds : dv.size = 16 := by rw [← hdv]; rfl
  have h1 : dv.all (·.oneCell') = true := by rw [← hdv, Array.all_eq_true_iff_forall_mem]; intro u hu; exact b8_one _ u (by simpa using hu)
  have hs1 := st_new (w := w) (cs := dv) (z := (List.replicate 16 (.int .u8 0)).toArray) (t := 39) (by rw [hds]; rfl) h1
  simp only [List.replicate] at hs1
  rw [hdv] at hbd ⊢
  have hdK : dv.size = K := by rw [hds, LD.sz]
  have laR : ∀ w, Sem.run Tryz.prog (isAgg R) w = .ok true w := fun w => by rw [LD.ty]; exact Tryz.isAgg39 w
  have lzR : ∀ w, Sem.run Tryz.prog (sizeOf R) w = .ok K w := fun w => by rw [LD.ty, LD.sz]; exact Tryz.sizeOf39 w
  have o2 : ∀ x y, Op.store 39 x y = Op.store R x y := fun x y => by rw [LD.ty]
  go_enter Tryz.func14, Tryz.ntmps14
  simp only [o2]
  have HDV := Lib.hid hdv
  clear o2 LD hdv h1
  go_wp2_with fail
  refine bodyPost_ret (results_dig rfl rfl (heap_alloc_new w _) rfl) rfl ?_
  exact ⟨by rw [← HDV.out]; rfl, Below.new _⟩
end Go.Proofs.YtdeccekeknlnoaaGreatDoor
