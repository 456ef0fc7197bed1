/- Chapter 38: a range over an iterator that hands over one element, the body of which goes on: own words for iterators that themselves hold such loops. | Chapter 38: package vm: need, valid, the deferred closure, the end of a run. | Chapter 38: package vm: a step. | Chapter 38: package vm: Run on the code of "accept;". -/
import Derived.Test.YtdeccekeknlnoaaGreatDoorJCoC
import Derived.Test.YtdeccekeknlnoaaGreatDoorJShG
namespace Go.Proofs.YtdeccekeknlnoaaGreatDoor
open Go.RowKit
/-- an iterator that hands over exactly one element -/
def Once {α : Type} (P : Program) (gf : Nat) (lb : Array Value) (E : α → Array Value) (Pre : World → α → World → Prop) (Kp : World → World → World → Prop) (Fin : World → World → World → World → Prop) (w0 : World) : Prop :=
  ∀ (l : Nat) (W : World) (R : α → World → World → Prop), Below w0.heap.size w0 W →
    (∀ x A, Pre W x A → YieldAt Fence.wide 1 P l (E x) A fun e B => e = .returned (.bool true) ∧ Kp W A B ∧ R x A B) →
    CallsIn Fence.wide 2 P gf (#[.func (.yield l) #[] #[]] ++ lb) W fun e W' => (∃ v, e = .returned v) ∧ ∃ x A B, Pre W x A ∧ R x A B ∧ Fin W A B W'
/-- where the body of the one round begins -/
def Begun {α : Type} (Pre : World → α → World → Prop) (w : World) (x : α) (W A X : World) : Prop := ∃ o : Obj, o.isCells = false ∧ Below w.heap.size w W ∧ W.heap.size = w.heap.size + 2 ∧ Pre W x A ∧ X = A.putObj (w.heap.size + 1) o ∧ ∃ r, W.heap[w.heap.size + 1]? = some (.loop r)
/-- where the loop ends -/
def EndedR {α : Type} (Pre : World → α → World → Prop) (Fin : World → World → World → World → Prop) (B : α → World → World → Prop) (w Z : World) : Prop :=
  ∃ (x : α) (W A X Y W' : World) (o1 o2 : Obj), Begun Pre w x W A X ∧ B x X Y ∧ Fin W A (Y.putObj (w.heap.size + 1) o1) W' ∧ Z = W'.putObj (w.heap.size + 1) o2
theorem wpIn_once {α : Type} {P : Program} {g : Operand} {ps : Array Tmp} {assign body : Code} {Q : Exit → Act → World → Prop} {a : Act} {w : World} {gf : Nat} {lb : Array Value}
    (hg : a.eval g = .func (.func gf) #[] lb) (eg : ∀ args w, (callFunc gf args).run P w = .ok (.enter gf args) w)
    {E : α → Array Value} {Pre : World → α → World → Prop} {Kp : World → World → World → Prop} {Fin : World → World → World → World → Prop}
    (hseq : Once P gf lb E Pre Kp Fin w) (hps : ∀ x, (E x).size = ps.size) (hPre : ∀ {W x A}, Pre W x A → Below W.heap.size W A)
    (hFin : ∀ {W A B W'}, Fin W A B W' → ∀ k, k < W.heap.size → W'.heap[k]? = B.heap[k]?)
    (B : α → World → World → Prop) (hB : ∀ {x W A X Y}, Begun Pre w x W A X → B x X Y → X.heap.size ≤ Y.heap.size ∧ ∀ k, k = w.heap.size ∨ k = w.heap.size + 1 → Y.heap[k]? = X.heap[k]?)
    (hKp : ∀ {x W A X Y} (o : Obj), Begun Pre w x W A X → B x X Y → Kp W A (Y.putObj (w.heap.size + 1) o)) (a₁ : α → Act)
    (hassign : ∀ (l : Nat) (x : α) (X : World) (K : Act → World → Prop), K (a₁ x) X → assign.wpIn (Fence.wide.inRound l) 1 P (Exit.then K (fun _ _ _ => False)) { tmps := (ps.zip (E x)).foldl (fun t (p, v) => t.setIfInBounds p v) a.tmps, defers := [] } X)
    (hbody : ∀ (x : α) (W A X : World), Begun Pre w x W A X → body.wpIn (Fence.wide.inRound (w.heap.size + 1)) 1 P (fun e _ Y => e = .normal ∧ B x X Y) (a₁ x) X)
    (hdone : ∀ Z, EndedR Pre Fin B w Z → Z.heap[w.heap.size]? = some (.deferred (some [])) → Q .normal { a with defers := { target := .collected w.heap.size, args := #[] } :: a.defers } Z) :
    (Code.rangeFunc g ps assign body).wpIn Fence.wide 3 P Q a w := by
  refine wpIn_rangeFunc fun fn hfn => ?_
  obtain ⟨rec, hrec⟩ : ∃ rec : LoopState → Loop, rec = fun st => { state := st, pending := none, fn, tmps := a.tmps, params := ps, assign, body, defers := w.heap.size } := ⟨_, rfl⟩
  obtain ⟨W1, hW1⟩ : ∃ X, (w.alloc (.deferred (some []))).alloc (.loop (rec .ready)) = X := ⟨_, rfl⟩
  have hL : W1.heap[w.heap.size + 1]? = some (.loop (rec .ready)) := by
    rw [← hW1]
    have := World.alloc_heap_new (w.alloc (.deferred (some []))) (.loop (rec .ready))
    rwa [World.size_alloc] at this
  have hD : W1.heap[w.heap.size]? = some (.deferred (some [])) := by
    rw [← hW1]
    exact (Below.heap_alloc _ _ _ (by simp)).trans (World.alloc_heap_new w _)
  have hb1 : Below w.heap.size w W1 := by
    rw [← hW1]
    exact ((Below.refl _ w).alloc (Nat.le_refl _) _).alloc (by simp) _
  have hs1 : W1.heap.size = w.heap.size + 2 := by rw [← hW1]; simp
  refine ⟨w.heap.size + 1, [{ target := .collected w.heap.size, args := #[] }], W1, { target := .fn (.func gf) lb, args := #[.func (.yield (w.heap.size + 1)) #[] #[]] }, W1, gf, #[.func (.yield (w.heap.size + 1)) #[] #[]] ++ lb, W1, ?_, ?_, ?_, ?_, fun _ => by decide, ?_⟩
  · rw [← hW1, hrec]
    exact run_enterLoop_outer _ _ _ _ _
  · simp only [resolve, hg]
    simp [go_sem]
  · intro f' _
    trivial
  · simp [invoke, go_sem, eg]
  · refine (hseq (w.heap.size + 1) W1 (fun x A Bw => ∃ (o1 : Obj) (X Y : World), Begun Pre w x W1 A X ∧ B x X Y ∧ Bw = Y.putObj (w.heap.size + 1) o1 ∧ Bw.heap[w.heap.size + 1]? = some (.loop (rec .ready)) ∧ Bw.heap[w.heap.size]? = some (.deferred (some []))) hb1 ?_).mono ?_
    · intro x A hpre
      have hbA := hPre hpre
      have hlA : A.heap[w.heap.size + 1]? = some (.loop (rec .ready)) := (hbA.block _ (by omega)).trans hL
      have hdA : A.heap[w.heap.size]? = some (.deferred (some [])) := (hbA.block _ (by omega)).trans hD
      have hlt : w.heap.size + 1 < A.heap.size := (Array.getElem?_eq_some_iff.1 hlA).1
      have hy := run_yield (P := P) (args := E x) hlA (by rw [hrec]; exact hps x)
      rw [hrec] at hy
      refine ⟨fn, _, assign, body, hy, roundIn_of_wpIn hfn (hassign _ x A _ ⟨_, run_beginRound hlA (by rw [hrec]), ?_⟩)⟩
      have hbg : Begun Pre w x W1 A (A.putObj (w.heap.size + 1) (.loop { rec .ready with state := .busy })) := ⟨_, rfl, hb1, hs1, hpre, rfl, _, hL⟩
      refine wpIn_mono (hbody x W1 A _ hbg) ?_
      rintro e a3 Y ⟨rfl, hBY⟩
      have hlX : (A.putObj (w.heap.size + 1) (.loop { rec .ready with state := .busy })).heap[w.heap.size + 1]? = some (.loop { rec .ready with state := .busy }) := World.putObj_heap_same hlt
      have hdX : (A.putObj (w.heap.size + 1) (.loop { rec .ready with state := .busy })).heap[w.heap.size]? = some (.deferred (some [])) := (World.putObj_heap_other (by omega)).trans hdA
      have hlY := ((hB hbg hBY).2 _ (.inr rfl)).trans hlX
      have hdY := ((hB hbg hBY).2 _ (.inl rfl)).trans hdX
      have hr := run_endRound (P := P) none hlY
      rw [hrec] at hr
      refine ⟨_, _, hr, rfl, hKp _ hbg hBY, _, _, Y, hbg, hBY, rfl, ?_, (World.putObj_heap_other (by omega)).trans hdY⟩
      rw [hrec]
      exact World.putObj_heap_same (Array.getElem?_eq_some_iff.1 hlY).1
    · rintro e W' ⟨⟨v, rfl⟩, x, A, Bw, hpre, ⟨o1, X, Y, hbg, hBY, rfl, hl, hd⟩, hfin⟩
      have hl' := (hFin hfin (w.heap.size + 1) (by omega)).trans hl
      have hd' := (hFin hfin w.heap.size (by omega)).trans hd
      have hr := run_endLoop (P := P) hl' (by rw [hrec]; simp)
      rw [hrec] at hr
      refine ⟨none, _, hr, hdone _ ⟨x, W1, A, X, Y, W', o1, _, hbg, hBY, hfin, rfl⟩ ((World.putObj_heap_other (by omega)).trans hd')⟩
end Go.Proofs.YtdeccekeknlnoaaGreatDoor

namespace Go.Proofs.YtdeccekeknlnoaaGreatDoor
open Go.RowKit
set_option maxRecDepth 1000000 in
set_option maxHeartbeats 600000 in
theorem vm_need (n : Int) (w : World) : Calls Tryz.prog 236 #[.bool true, .int .i64 n] w fun e w' => e = .returned (.tuple #[]) ∧ w' = w := by
  go_enter Tryz.func236, Tryz.ntmps236
  go_wp2_with fail
  go_end0
  exact ⟨rfl, rfl⟩
set_option maxRecDepth 1000000 in
set_option maxHeartbeats 600000 in
theorem vm_index0 (a : Option Addr) (c : Nat) (f : Value) (w : World) : Calls Tryz.prog 262 #[.slice a 0 c, f] w fun e w' => e = .returned (.int .i64 (-1)) ∧ w' = w := by
  go_enter Tryz.func262, Tryz.ntmps262
  go_wp2_with fail
  refine wp_loop_rounds 1 ?_
  rw [rounds_succ]
  go_wp2_with fail
  go_ret
  exact ⟨rfl, rfl⟩
set_option maxRecDepth 1000000 in
set_option maxHeartbeats 600000 in
theorem vm_contains0 (a : Option Addr) (c : Nat) (f : Value) (w : World) : Calls Tryz.prog 235 #[.slice a 0 c, f] w fun e w' => e = .returned (.bool false) ∧ w' = w := by
  go_enter Tryz.func235, Tryz.ntmps235
  go_wp2_with (go_at_call 262; refine (vm_index0 _ _ _ _).mono ?_; rintro e w' ⟨rfl, rfl⟩)
  go_ret
  exact ⟨rfl, rfl⟩
set_option maxRecDepth 1000000 in
set_option maxHeartbeats 600000 in
theorem vm_valid (x : Value) (a : Option Addr) (c : Nat) (w : World) : Calls Tryz.prog 202 #[.agg #[x, .int .i64 0, .int .i64 0], .slice a 0 c] w fun e w' => e = .returned (.bool true) ∧ Below w.heap.size w w' := by
  go_enter Tryz.func202, Tryz.ntmps202
  go_wp2_with (go_at_call 235; refine (vm_contains0 _ _ _ _).mono ?_; rintro e w' ⟨rfl, rfl⟩)
  go_ret
  exact ⟨rfl, Below.new _⟩
theorem idle_store (w : World) : (execOp ({ tmps := #[.pointer none], defers := [] } : Act).eval ({ dst := none, op := Op.store 323 (Operand.const (.pointer (some ⟨w.heap.size, 0, none⟩))) (Operand.const (.agg #[.int .i64 0])), type := 0, pos := "", after := #[], guard := none } : Oper)).run Tryz.prog (w.alloc (.cells #[.int .i64 0] 323)) = .ok .skip (w.alloc (.cells #[.int .i64 0] 323)) := by
  have lz : ∀ w, Sem.run Tryz.prog (sizeOf 323) w = .ok 1 w := Tryz.sizeOf323
  simp [execOp, Act.eval, Instr.storeAt, go_sem, lz]
set_option maxRecDepth 1000000 in
set_option maxHeartbeats 600000 in
theorem vm_idle (a b : Nat) (w : World) :
    CallsD Tryz.prog 203 #[.pointer (some ⟨a, 0, none⟩), .pointer (some ⟨b, 0, none⟩)] .returning w fun e u' w' => e = .returned (.tuple #[]) ∧ u' = .returning ∧ w' = w.alloc (.cells #[.int .i64 0] 323) := by
  refine callsD_of_wpS Tryz.func203 rfl fun c₀ cs hu => ?_
  apply wpS_seq
  apply wpS_region
  have hrec : recoverD (c₀ :: cs) = none := by simp [recoverD, hu]
  change wpOpsS _ _ _ [0, 1, 2, 3, 4, 5, 6, 7] { tmps := #[.pointer (some ⟨a, 0, none⟩), .pointer (some ⟨b, 0, none⟩), undef, undef, undef, undef, undef, undef, undef, undef, undef, undef, undef], defers := [] } _ _
  refine WS.out ?_
  refine sS_none (o := ({ dst := some 5, op := Op.call { callee := Callee.builtin Builtin.recover, args := #[], argTypes := #[] }, type := 20, pos := "vm.go:174", after := #[], guard := none } : Oper)) (w' := w) rfl rfl (by kernel_rfl) hrec ?_
  try simp only [Act.put, List.setIfInBounds_toArray, List.set_cons_zero, List.set_cons_succ]
  refine sS_value (o := ({ dst := some 6, op := Op.typeAssert (Operand.tmp 5) 20 323 true, type := 324, pos := "vm.go:174", after := #[{ on := 0, ground := Ground.data }], guard := none } : Oper)) (v := .tuple #[.agg #[.int .i64 0], .bool false]) (w' := w) rfl rfl (by kernel_rfl) ?_
  try simp only [Act.put, List.setIfInBounds_toArray, List.set_cons_zero, List.set_cons_succ]
  refine sS_value (o := ({ dst := some 4, op := Op.move (Operand.tmp 6), type := 324, pos := "vm.go:174", after := #[{ on := 1, ground := Ground.data }], guard := none } : Oper)) (v := .tuple #[.agg #[.int .i64 0], .bool false]) (w' := w) rfl rfl (by kernel_rfl) ?_
  try simp only [Act.put, List.setIfInBounds_toArray, List.set_cons_zero, List.set_cons_succ]
  refine sS_value (o := ({ dst := some 7, op := Op.extract (Operand.tmp 4) 0, type := 323, pos := "vm.go:174", after := #[{ on := 2, ground := Ground.data }], guard := none } : Oper)) (v := .agg #[.int .i64 0]) (w' := w) rfl rfl (by kernel_rfl) ?_
  try simp only [Act.put, List.setIfInBounds_toArray, List.set_cons_zero, List.set_cons_succ]
  refine sS_value (o := ({ dst := some 8, op := Op.extract (Operand.tmp 4) 1, type := 4, pos := "vm.go:174", after := #[{ on := 2, ground := Ground.data }, { on := 6, ground := Ground.gcOnly Departure.lateStores }], guard := none } : Oper)) (v := .bool false) (w' := w) rfl rfl (by kernel_rfl) ?_
  try simp only [Act.put, List.setIfInBounds_toArray, List.set_cons_zero, List.set_cons_succ]
  refine sS_value (o := ({ dst := some 2, op := Op.alloc 323, type := 0, pos := "vm.go:174", after := #[], guard := none } : Oper)) (v := .pointer (some ⟨w.heap.size, 0, none⟩)) (w' := w.alloc (.cells #[.int .i64 0] 323)) rfl rfl (by kernel_rfl) ?_
  try simp only [Act.put, List.setIfInBounds_toArray, List.set_cons_zero, List.set_cons_succ]
  refine sS_skip (o := ({ dst := none, op := Op.store 323 (Operand.tmp 2) (Operand.tmp 7), type := 0, pos := "vm.go:174", after := #[{ on := 5, ground := Ground.data }, { on := 3, ground := Ground.data }, { on := 0, ground := Ground.chain }, { on := 0, ground := Ground.phase }, { on := 1, ground := Ground.phase }, { on := 2, ground := Ground.phase }, { on := 3, ground := Ground.phase }, { on := 4, ground := Ground.textOnly Departure.lateStores }, { on := 5, ground := Ground.phase }], guard := none } : Oper)) (w' := w.alloc (.cells #[.int .i64 0] 323)) rfl rfl (idle_store w) ?_
  try simp only [Act.put]
  refine sS_value (o := ({ dst := some 3, op := Op.assign (Operand.tmp 8), type := 4, pos := "vm.go:174", after := #[{ on := 4, ground := Ground.data }, { on := 6, ground := Ground.chain }, { on := 0, ground := Ground.phase }, { on := 1, ground := Ground.phase }, { on := 2, ground := Ground.phase }, { on := 3, ground := Ground.phase }, { on := 4, ground := Ground.phase }, { on := 5, ground := Ground.phase }, { on := 6, ground := Ground.phase }], guard := none } : Oper)) (v := .bool false) (w' := w.alloc (.cells #[.int .i64 0] 323)) rfl rfl (by kernel_rfl) ?_
  try simp only [Act.put, List.setIfInBounds_toArray, List.set_cons_zero, List.set_cons_succ]
  refine sS_nil ?_
  change Code.wpS _ _ _ _ _ _
  refine wpS_of_wp ?_
  go_wp2_with fail
  cases c₀
  simp_all [bodyPostS, results, Tryz.results203]
/-- the machine at its block -/
def MachAt (w : World) (mb g c vb pb : Nat) (pc steps : Int) (done : Bool) : Prop := w.heap[mb]? = some (.cells #[.slice (some ⟨g, 0, none⟩) 2 c, .int .i64 0, .int .i64 0, .slice none 0 0, .int .i64 pc, .slice (some ⟨vb, 0, none⟩) 0 0, .slice none 0 0, .int .i64 0, .slice (some ⟨pb, 0, none⟩) 0 0, .slice none 0 0, .int .i64 0, .int .i64 steps, .bool done] 327 (0, 0))
theorem MachAt.cells {w : World} {mb g c vb pb : Nat} {pc steps : Int} {done : Bool} (h : MachAt w mb g c vb pb pc steps done) :
    w.cell? ⟨mb, 0, none⟩ = some (.slice (some ⟨g, 0, none⟩) 2 c) ∧ w.cell? ⟨mb, 4, none⟩ = some (.int .i64 pc) ∧ w.cell? ⟨mb, 5, none⟩ = some (.slice (some ⟨vb, 0, none⟩) 0 0) ∧ w.cell? ⟨mb, 8, none⟩ = some (.slice (some ⟨pb, 0, none⟩) 0 0) ∧ w.cell? ⟨mb, 9, none⟩ = some (.slice none 0 0) ∧ w.cell? ⟨mb, 10, none⟩ = some (.int .i64 0) ∧ w.cell? ⟨mb, 11, none⟩ = some (.int .i64 steps) ∧ w.cell? ⟨mb, 12, none⟩ = some (.bool done) ∧ ∀ o, w.frozen? ⟨mb, o, none⟩ = false := by
  unfold MachAt at h
  refine ⟨?_, ?_, ?_, ?_, ?_, ?_, ?_, ?_, fun o => ?_⟩ <;> simp [World.cell?, World.frozen?, h]
set_option maxRecDepth 1000000 in
set_option maxHeartbeats 600000 in
theorem vm_end {mb g c vb pb : Nat} {pc steps : Int} {d : Bool} (w : World) (h : MachAt w mb g c vb pb pc steps d) :
    Calls Tryz.prog 320 #[.pointer (some ⟨mb, 0, none⟩), .agg #[.int .i64 16, .int .i64 0, .int .i64 0]] w fun e w' => e = .returned (.tuple #[]) ∧ MachAt w' mb g c vb pb pc steps true ∧ Ate mb w w' := by
  obtain ⟨S, hS⟩ : ∃ S : Ending → World → Prop, (fun e w' => e = .returned (.tuple #[]) ∧ MachAt w' mb g c vb pb pc steps true ∧ Ate mb w w') = S := ⟨_, rfl⟩
  rw [hS]
  have HSS := Lib.hid hS
  have hb0 := Below.new (w := w) (.cells #[.int .i64 16, .int .i64 0, .int .i64 0] 352)
  have e0 := heap_alloc_new w (.cells #[.int .i64 16, .int .i64 0, .int .i64 0] 352)
  have h0 : MachAt _ mb g c vb pb pc steps d := (hb0.block _ (lt_of_block h)).trans h
  have hne : mb ≠ w.heap.size := Nat.ne_of_lt (lt_of_block h)
  obtain ⟨W, hW⟩ : ∃ X, w.alloc (.cells #[.int .i64 16, .int .i64 0, .int .i64 0] 352) = X := ⟨_, rfl⟩
  rw [hW] at hb0 e0 h0
  obtain ⟨-, -, -, -, -, -, -, d12, df⟩ := h0.cells
  have e1 : (W.setCell ⟨mb, 12, none⟩ (.bool true)).heap[w.heap.size]? = _ := (set_other _ _ _ _ _ (Ne.symm hne)).trans e0
  obtain ⟨x0, -⟩ := three_cellsC e1
  have hm := heap_set h0 12 (.bool true)
  have hA : Ate mb w (W.setCell ⟨mb, 12, none⟩ (.bool true)) := ⟨hb0.os, hb0.tape, hb0.output, by have := hb0.size; simp [World.setCell]; omega, fun k hk hk1 => (set_other _ _ _ _ _ hk1).trans (hb0.block k hk)⟩
  have HF := Lib.hid (And.intro hm hA)
  clear hS h hb0 e0 h0 hne e1 hm hA
  go_enter Tryz.func320, Tryz.ntmps320
  go_wp2_with fail
  go_end0
  rw [← HSS.out]
  exact ⟨rfl, by have := HF.out.1; simpa [MachAt] using this, HF.out.2⟩
end Go.Proofs.YtdeccekeknlnoaaGreatDoor

namespace Go.Proofs.YtdeccekeknlnoaaGreatDoor
open Go.RowKit
/-- the table of instructions -/
def GlV (w : World) : Prop := w.cell? ⟨7, 16, none⟩ = some (.func (.func 320) #[] #[]) ∧ 15 ≤ w.heap.size
theorem GlV.mem {w w' : World} (h : GlV w) (hb : Below w.heap.size w w') : GlV w' := ⟨(hb.cell (p := ⟨7, 16, none⟩) (show (7 : Nat) < w.heap.size by have := h.2; omega)).trans h.1, Nat.le_trans h.2 hb.size⟩
def StepSaid (mb g c vb pb : Nat) (w : World) (e : Ending) (w' : World) : Prop := e = .returned (.tuple #[]) ∧ MachAt w' mb g c vb pb 1 1 true ∧ Ate mb w w'
/-- between the loads and behind the call -/
def SM (mb g c vb pb : Nat) (X w' : World) : Prop := (∃ d, MachAt w' mb g c vb pb 1 1 d) ∧ Ate mb X w'
def InsNew (w wc : World) (ib : Nat) : Prop := wc.heap[ib]? = some (.cells #[.int .i64 16, .int .i64 0, .int .i64 0] 352 (0, 0)) ∧ Un w wc ∧ w.heap.size ≤ ib
set_option maxRecDepth 1000000 in
set_option maxHeartbeats 1000000 in
theorem vm_step {mb g c vb pb : Nat} (w : World) (h : MachAt w mb g c vb pb 0 0 false) (hr : w.rangeAt g 0 [.int .i64 16, .int .i64 0, .int .i64 0, .int .i64 16, .int .i64 0, .int .i64 0]) (hv : GlV w) (hmb : 15 ≤ mb) :
    Calls Tryz.prog 204 #[.pointer (some ⟨mb, 0, none⟩)] w (StepSaid mb g c vb pb w) := by
  obtain ⟨S, hS⟩ : ∃ S : Ending → World → Prop, StepSaid mb g c vb pb w = S := ⟨_, rfl⟩
  rw [hS]
  have HSS := Lib.hid hS
  obtain ⟨d0, d4, d5, d8, d9, d10, d11, d12, df⟩ := h.cells
  have g0 : w.cell? ⟨g, 0, none⟩ = some (.int .i64 16) := hr 0 _ rfl
  have g1 : w.cell? ⟨g, 1, none⟩ = some (.int .i64 0) := hr 1 _ rfl
  have g2 : w.cell? ⟨g, 2, none⟩ = some (.int .i64 0) := hr 2 _ rfl
  have HK := Lib.hid (And.intro h (And.intro hv hmb))
  have q0 := fun X => al_cell X d0
  have q4 := fun X => al_cell X d4
  have r0 := fun X => al_cell X g0
  have r1 := fun X => al_cell X g1
  have r2 := fun X => al_cell X g2
  clear hS h hr hv hmb df
  go_enter Tryz.func204, Tryz.ntmps204
  go_upto_region 1 with (go_at_call 236; refine (vm_need _ _).mono ?_; rintro e w2 ⟨rfl, hq⟩; have hq' := hq.symm; subst hq')
  go_region_held3 (fun w' => w'.cell? ⟨mb, 0, none⟩ = some (.slice (some ⟨g, 0, none⟩) 2 c) ∧ w'.cell? ⟨mb, 4, none⟩ = some (.int .i64 0)) (first | assumption | exact ⟨d0, d4⟩ | go_keep) ((go_at_call 236; (with_reducible refine (vm_need _ _).mono ?_); rintro e w2 ⟨rfl, hq⟩; subst hq))
  go_upto_region 2 with fail
  go_cut [2] (fun s2 wc => ∃ ib, s2 = .pointer (some ⟨ib, 0, none⟩) ∧ InsNew w wc ib)
  case first =>
    go_region
    all_goals go_wp2_with fail
    all_goals go_meet
    all_goals exact ⟨_, rfl, heap_alloc_new _ _, un_dr (un_dr (un_alloc (un_refl _) _)), Nat.le_refl _⟩
  case rest =>
    obtain ⟨ib, rfl, hi, hu, hib⟩ := hcut
    obtain ⟨h0, hv0, hmb⟩ := HK.out
    have hlt := lt_of_block h0
    have hm : MachAt wc mb g c vb pb 0 0 false := (hu.block _ hlt).trans h0
    have hm1 := heap_set hm 4 (.int .i64 1)
    have hm2 := heap_set hm1 11 (.int .i64 1)
    obtain ⟨X, hX⟩ : ∃ X, (wc.setCell ⟨mb, 4, none⟩ (.int .i64 1)).setCell ⟨mb, 11, none⟩ (.int .i64 1) = X := ⟨_, rfl⟩
    have hxb : ∀ k, k ≠ mb → X.heap[k]? = wc.heap[k]? := fun k hk => by rw [← hX, set_other _ _ _ _ _ hk, set_other _ _ _ _ _ hk]
    have hxs : X.heap.size = wc.heap.size := by rw [← hX]; simp [World.setCell]
    have hxo : X.os = wc.os ∧ X.tape = wc.tape ∧ X.output = wc.output := by rw [← hX]; exact ⟨rfl, rfl, rfl⟩
    rw [hX] at hm2
    have hm3 : MachAt X mb g c vb pb 1 1 false := by simpa [MachAt] using hm2
    have hi2 := (hxb ib (by omega)).trans hi
    have hv2 : X.cell? ⟨7, 16, none⟩ = some (.func (.func 320) #[] #[]) := (World.cell?_of_block (a := ⟨7, 16, none⟩) (hxb _ (show (7 : Nat) ≠ mb by omega))).trans (hv0.mem hu).1
    obtain ⟨i0, i1, i2, -⟩ := three_cellsC hi
    obtain ⟨j0, j1, j2, -⟩ := three_cellsC hi2
    obtain ⟨e0, e4, e5, e8, e9, e10, e11, e12, ef⟩ := hm.cells
    obtain ⟨f0, f4, f5, f8, f9, f10, f11, f12, ff⟩ := hm3.cells
    have k11 : (wc.setCell ⟨mb, 4, none⟩ (.int .i64 1)).cell? ⟨mb, 11, none⟩ = some (.int .i64 0) := (World.cell?_setCell_other _ _ _ _ (by simp)).trans e11
    have hus := hu.size
    have hvs := hv0.2
    have HE := Lib.hid (show ∀ w', SM mb g c vb pb X w' → Calls Tryz.prog 320 #[.pointer (some ⟨mb, 0, none⟩), .agg #[.int .i64 16, .int .i64 0, .int .i64 0]] w' fun e w2 => e = .returned (.tuple #[]) ∧ MachAt w2 mb g c vb pb 1 1 true ∧ SM mb g c vb pb X w2 ∧ w2.cell? ⟨ib, 0, none⟩ = some (.int .i64 16) ∧ w2.cell? ⟨ib, 1, none⟩ = some (.int .i64 0) ∧ w2.cell? ⟨ib, 2, none⟩ = some (.int .i64 0) ∧ w2.cell? ⟨7, 16, none⟩ = some (.func (.func 320) #[] #[]) from fun w' hw' => by
      obtain ⟨d, hd⟩ := hw'.1
      refine (vm_end w' hd).mono ?_
      rintro e w2 ⟨rfl, hm9, ha9⟩
      have ha := ha9.trans hw'.2
      have hib' := (ha.block ib (lt_of_block hi2) (by omega)).trans hi2
      obtain ⟨k0, k1, k2, -⟩ := three_cellsC hib'
      exact ⟨rfl, hm9, ⟨⟨_, hm9⟩, ha⟩, k0, k1, k2, (World.cell?_of_block (a := ⟨7, 16, none⟩) (ha.block _ (show (7 : Nat) < X.heap.size by omega) (show (7 : Nat) ≠ mb by omega))).trans hv2⟩)
    have hsm : SM mb g c vb pb X X := ⟨⟨_, hm3⟩, Ate.refl _ _⟩
    have hsm1 : SM mb g c vb pb X X.drew := ⟨⟨_, hm3⟩, Ate.of_below (Below.refl _ _).drew⟩
    have HB := Lib.hid (And.intro hu (And.intro hxb (And.intro hxs hxo)))
    clear hi hu hib h0 hv0 hmb hlt hm hm1 hm2 hxb hxs hxo hm3 hi2 d0 d4 d5 d8 d9 d10 d11 d12 g0 g1 g2 q0 q4 r0 r1 r2
    go_upto_region 6 with (go_at_call 236; refine (vm_need _ _).mono ?_; rintro e w2 ⟨rfl, hq⟩; have hq' := hq.symm; subst hq')
    clear hX
    go_region_held3 (fun w' => w'.cell? ⟨ib, 0, none⟩ = some (.int .i64 16) ∧ w'.cell? ⟨ib, 1, none⟩ = some (.int .i64 0) ∧ w'.cell? ⟨ib, 2, none⟩ = some (.int .i64 0) ∧ w'.cell? ⟨7, 16, none⟩ = some (.func (.func 320) #[] #[]) ∧ SM mb g c vb pb X w') ((go_split_ands; first | assumption | go_keep)) ((go_at_call 320; go_split_ands; (with_reducible refine (HE.out _ (by assumption)).mono ?_); rintro e w2 ⟨rfl, hm9, hs9, c0, c1, c2, c7⟩))
    all_goals go_wp2_with fail
    all_goals
      go_end0
      rw [← HSS.out]
      obtain ⟨hu, hxb, hxs, hxo⟩ := HB.out
      exact ⟨rfl, hm9, hs9.2.trans ⟨hxo.1.trans hu.os, hxo.2.1.trans hu.tape, hxo.2.2.trans hu.output, by have := hu.size; omega, fun k hk hk1 => (hxb k hk1).trans (hu.block k hk)⟩⟩
end Go.Proofs.YtdeccekeknlnoaaGreatDoor

namespace Go.Proofs.YtdeccekeknlnoaaGreatDoor
open Go.RowKit
def RunSaid (w : World) (e : Ending) (w' : World) : Prop := ∃ pb, e = .returned (.tuple #[.agg #[.slice (some ⟨pb, 0, none⟩) 0 0, .slice none 0 0, .int .i64 0, .int .i64 1], .int .i64 0]) ∧ Below w.heap.size w w'
def MNew (W1 wc : World) (mb g c vb pb : Nat) : Prop := MachAt wc mb g c vb pb 0 0 false ∧ Un W1 wc ∧ W1.heap.size ≤ mb
theorem m_new {W1 : World} {g c vb pb : Nat} {o1 o2 : Obj} : MNew W1 (((W1.alloc o1).alloc o2).alloc (.cells #[.slice (some ⟨g, 0, none⟩) 2 c, .int .i64 0, .int .i64 0, .slice none 0 0, .int .i64 0, .slice (some ⟨vb, 0, none⟩) 0 0, .slice none 0 0, .int .i64 0, .slice (some ⟨pb, 0, none⟩) 0 0, .slice none 0 0, .int .i64 0, .int .i64 0, .bool false] 327)).drew (W1.heap.size + 1 + 1) g c vb pb := by
  refine ⟨?_, un_dr (un_alloc (un_alloc (un_alloc (un_refl _) _) _) _), by omega⟩
  have := heap_alloc_new ((W1.alloc o1).alloc o2) (.cells #[.slice (some ⟨g, 0, none⟩) 2 c, .int .i64 0, .int .i64 0, .slice none 0 0, .int .i64 0, .slice (some ⟨vb, 0, none⟩) 0 0, .slice none 0 0, .int .i64 0, .slice (some ⟨pb, 0, none⟩) 0 0, .slice none 0 0, .int .i64 0, .int .i64 0, .bool false] 327)
  rw [World.size_alloc, World.size_alloc] at this
  exact this
set_option maxRecDepth 1000000 in
set_option maxHeartbeats 4000000 in
theorem vm_run (v : Value) (a : Option Addr) (k : Nat) (w : World) (hc : CodeV w v) (hv : GlV w) : Calls Tryz.prog 164 #[v, .slice a 0 k, .slice none 0 0] w (RunSaid w) := by
  obtain ⟨S, hS⟩ : ∃ S : Ending → World → Prop, RunSaid w = S := ⟨_, rfl⟩
  rw [hS]
  have HSS := Lib.hid hS
  have hmf : ∀ (fn : Fn) (first cap : Array Value) (w : World), (Instr.makeFunc fn first cap).run Tryz.prog w = .ok (.func fn first cap) w := fun _ _ _ _ => rfl
  have hms : ∀ w, (Instr.makeSlice 41 (.int .i64 0) (.int .i64 0)).run Tryz.prog w = .ok (.slice (some ⟨w.heap.size, 0, none⟩) 0 0) (w.alloc (.cells #[] 3)) := fun w => by kernel_rfl
  have hcp : ∀ w b ty, (Builtin.copy_ #[41, 41] ty #[.slice (some ⟨b, 0, none⟩) 0 0, .slice a 0 k]).run Tryz.prog w = .ok (.int .i64 0) w := fun w b ty => by cases a <;> kernel_rfl
  obtain ⟨g, c, rfl, hg, hr⟩ := hc
  obtain ⟨W0, hW0⟩ : ∃ X, ((w.alloc (.cells #[.slice (some ⟨g, 0, none⟩) 2 c, .int .i64 0, .int .i64 0] 274)).alloc (.cells #[.slice none 0 0, .slice none 0 0, .int .i64 0, .int .i64 0] 224)).alloc (.cells #[.int .i64 0] 31) = X := ⟨_, rfl⟩
  have hb0 : Below w.heap.size w W0 := by rw [← hW0]; exact (((Below.refl _ _).alloc (Nat.le_refl _) _).alloc (by simp) _).alloc (by simp; omega) _
  have hs0 : W0.heap.size = w.heap.size + 3 := by rw [← hW0]; simp
  have c0 : W0.heap[w.heap.size]? = some (.cells #[.slice (some ⟨g, 0, none⟩) 2 c, .int .i64 0, .int .i64 0] 274 (0, 0)) := by
    rw [← hW0]
    exact (Below.heap_alloc _ _ _ (by simp; omega)).trans ((Below.heap_alloc _ _ _ (by simp)).trans (heap_alloc_new _ _))
  have c1 : W0.heap[w.heap.size + 1]? = some (.cells #[.slice none 0 0, .slice none 0 0, .int .i64 0, .int .i64 0] 224 (0, 0)) := by
    rw [← hW0]
    refine (Below.heap_alloc _ _ _ (by simp)).trans ?_
    have := heap_alloc_new (w.alloc (.cells #[.slice (some ⟨g, 0, none⟩) 2 c, .int .i64 0, .int .i64 0] 274)) (.cells #[.slice none 0 0, .slice none 0 0, .int .i64 0, .int .i64 0] 224)
    rwa [World.size_alloc] at this
  have c2 : W0.heap[w.heap.size + 1 + 1]? = some (.cells #[.int .i64 0] 31 (0, 0)) := by
    rw [← hW0]
    have := heap_alloc_new ((w.alloc (.cells #[.slice (some ⟨g, 0, none⟩) 2 c, .int .i64 0, .int .i64 0] 274)).alloc (.cells #[.slice none 0 0, .slice none 0 0, .int .i64 0, .int .i64 0] 224)) (.cells #[.int .i64 0] 31)
    rwa [World.size_alloc, World.size_alloc] at this
  have HK := Lib.hid (show ∀ W, Un W0 W → Below w.heap.size w W ∧ W.heap[w.heap.size]? = some (.cells #[.slice (some ⟨g, 0, none⟩) 2 c, .int .i64 0, .int .i64 0] 274 (0, 0)) ∧ W.heap[w.heap.size + 1]? = some (.cells #[.slice none 0 0, .slice none 0 0, .int .i64 0, .int .i64 0] 224 (0, 0)) ∧ W.heap[w.heap.size + 1 + 1]? = some (.cells #[.int .i64 0] 31 (0, 0)) ∧ GlV W ∧ W.rangeAt g 0 [.int .i64 16, .int .i64 0, .int .i64 0, .int .i64 16, .int .i64 0, .int .i64 0] from fun W hW => by
    have hb := hb0.trans (Below.mono hW (by omega))
    exact ⟨hb, (hW.block _ (lt_of_block c0)).trans c0, (hW.block _ (lt_of_block c1)).trans c1, (hW.block _ (lt_of_block c2)).trans c2, hv.mem hb, fun j u hu => (hb.cell (p := ⟨g, 0 + j, none⟩) hg).trans (hr j u hu)⟩)
  have HS0 := Lib.hid (And.intro hs0 hv.2)
  obtain ⟨x0, x1, x2, -⟩ := three_cellsC c0
  clear hS hb0 hs0 c0 c1 c2 hg hr hv
  go_enter_defers Tryz.func164, Tryz.ntmps164
  go_upto_region 4 with (go_at_call 202; refine (vm_valid _ _ _ _).mono ?_; rintro e W1 ⟨rfl, hb1⟩; have hu1 : Un W0 W1 := hb1; obtain ⟨x0, x1, x2, -⟩ := three_cellsC (HK.out W1 hu1).2.1; clear hb1)
  clear hW0
  have q0 := fun X => al_cell X x0
  have q1 := fun X => al_cell X x1
  have q2 := fun X => al_cell X x2
  have t0 := fun X Y => al_cell Y (al_cell X x0)
  have t1 := fun X Y => al_cell Y (al_cell X x1)
  have t2 := fun X Y => al_cell Y (al_cell X x2)
  go_cut [8] from 15 to 25 (fun s8 wc => ∃ mb vb pb, s8 = .pointer (some ⟨mb, 0, none⟩) ∧ MNew W1 wc mb g c vb pb)
  case first =>
    go_region
    all_goals go_wp2_with fail
    all_goals go_meet
    all_goals exact ⟨_, _, _, rfl, m_new⟩
  case rest =>
    obtain ⟨mb, vb, pb, rfl, hm, hu, hmb⟩ := hcut
    clear x0 x1 x2 q0 q1 q2 t0 t1 t2
    have hu2 : Un W0 wc := un_step hu1 hu
    obtain ⟨k0, k1, k2, k3, k4, k5⟩ := HK.out wc hu2
    obtain ⟨d0, d4, d5, d8, d9, d10, d11, d12, df⟩ := hm.cells
    have hsz := HS0.out
    have hsw := hu1.size
    have HSP := Lib.hid (vm_step wc hm k5 k4 (by omega))
    have HX := Lib.hid (And.intro hu2 (And.intro hmb hm))
    clear k0 k1 k2 k3 k4 k5 hm hu hmb hu2 hsz hsw df d4 d8 d9 d10 d11
    go_wp2_with fail
    refine wp_loop_rounds 2 ?_
    rw [rounds_succ]
    go_wp2_with (go_at_call 204; refine HSP.out.mono ?_; rintro e Ws ⟨rfl, hm9, ha9⟩)
    obtain ⟨hu2, hmb, hm⟩ := HX.out
    obtain ⟨k0, k1, k2, k3, k4, k5⟩ := HK.out wc hu2
    have hsz := HS0.out
    have hsw := hu1.size
    obtain ⟨d0, d4, d5, d8, d9, d10, d11, d12, df⟩ := hm9.cells
    have e1 := (ha9.block _ (lt_of_block k2) (by omega)).trans k2
    have e2 := (ha9.block _ (lt_of_block k3) (by omega)).trans k3
    have hbs : Below w.heap.size w Ws := ⟨ha9.os.trans k0.os, ha9.tape.trans k0.tape, ha9.output.trans k0.output, Nat.le_trans k0.size ha9.size, fun k hk => (ha9.block k (Nat.lt_of_lt_of_le hk k0.size) (by omega)).trans (k0.block k hk)⟩
    obtain ⟨y0, y1, y2, y3, yf⟩ := four_cells e1
    obtain ⟨z0, zf⟩ := one_cell e2
    have p1 := heap_set (heap_set (heap_set (heap_set e1 0 (.slice (some ⟨pb, 0, none⟩) 0 0)) 1 (.slice none 0 0)) 2 (.int .i64 0)) 3 (.int .i64 1)
    have hfin : S (.returned (.tuple #[.agg #[.slice (some ⟨pb, 0, none⟩) 0 0, .slice none 0 0, .int .i64 0, .int .i64 1], .int .i64 0])) ((((((Ws.setCell ⟨w.heap.size + 1, 0, none⟩ (.slice (some ⟨pb, 0, none⟩) 0 0)).setCell ⟨w.heap.size + 1, 1, none⟩ (.slice none 0 0)).setCell ⟨w.heap.size + 1, 2, none⟩ (.int .i64 0)).setCell ⟨w.heap.size + 1, 3, none⟩ (.int .i64 1)).setCell ⟨w.heap.size + 1 + 1, 0, none⟩ (.int .i64 0)).alloc (.cells #[.int .i64 0] 323)) := by
      rw [← HSS.out]
      refine ⟨pb, rfl, ?_⟩
      have h1 := hbs.setCell (p := ⟨w.heap.size + 1, 0, none⟩) (Nat.le_succ _) (.slice (some ⟨pb, 0, none⟩) 0 0)
      have h2 := h1.setCell (p := ⟨w.heap.size + 1, 1, none⟩) (Nat.le_succ _) (.slice none 0 0)
      have h3 := h2.setCell (p := ⟨w.heap.size + 1, 2, none⟩) (Nat.le_succ _) (.int .i64 0)
      have h4 := h3.setCell (p := ⟨w.heap.size + 1, 3, none⟩) (Nat.le_succ _) (.int .i64 1)
      have h5 := h4.setCell (p := ⟨w.heap.size + 1 + 1, 0, none⟩) (by simp only; omega) (.int .i64 0)
      exact h5.alloc h5.size _
    have HF := Lib.hid (And.intro hfin (And.intro e1 e2))
    clear k0 k1 k2 k3 k4 k5 hm hu2 hmb hsz hsw e1 e2 hbs p1 hfin ha9 hm9 HX HSP
    rw [rounds_succ]
    go_wp2_with fail
    refine leaves_cons (f := 203) (args := #[.pointer (some ⟨w.heap.size + 1, 0, none⟩), .pointer (some ⟨w.heap.size + 1 + 1, 0, none⟩)]) (by simp) (by simp [go_sem]) ?_
    refine (vm_idle (w.heap.size + 1) (w.heap.size + 1 + 1) _).mono ?_
    rintro e u' w4 ⟨rfl, rfl, rfl⟩
    obtain ⟨hfin, e1, e2⟩ := HF.out
    have p1 : (((((Ws.setCell ⟨w.heap.size + 1, 0, none⟩ (.slice (some ⟨pb, 0, none⟩) 0 0)).setCell ⟨w.heap.size + 1, 1, none⟩ (.slice none 0 0)).setCell ⟨w.heap.size + 1, 2, none⟩ (.int .i64 0)).setCell ⟨w.heap.size + 1, 3, none⟩ (.int .i64 1)).setCell ⟨w.heap.size + 1 + 1, 0, none⟩ (.int .i64 0)).heap[w.heap.size + 1]? = some (.cells #[.slice (some ⟨pb, 0, none⟩) 0 0, .slice none 0 0, .int .i64 0, .int .i64 1] 224 (0, 0)) := by
      rw [set_other _ _ _ _ _ (by omega)]
      have := heap_set (heap_set (heap_set (heap_set e1 0 (.slice (some ⟨pb, 0, none⟩) 0 0)) 1 (.slice none 0 0)) 2 (.int .i64 0)) 3 (.int .i64 1)
      simpa using this
    have p2 : (((((Ws.setCell ⟨w.heap.size + 1, 0, none⟩ (.slice (some ⟨pb, 0, none⟩) 0 0)).setCell ⟨w.heap.size + 1, 1, none⟩ (.slice none 0 0)).setCell ⟨w.heap.size + 1, 2, none⟩ (.int .i64 0)).setCell ⟨w.heap.size + 1, 3, none⟩ (.int .i64 1)).setCell ⟨w.heap.size + 1 + 1, 0, none⟩ (.int .i64 0)).heap[w.heap.size + 1 + 1]? = some (.cells #[.int .i64 0] 31 (0, 0)) := by
      refine set_one (a := .int .i64 0) ?_
      rw [set_other _ _ _ _ _ (by omega), set_other _ _ _ _ _ (by omega), set_other _ _ _ _ _ (by omega), set_other _ _ _ _ _ (by omega)]
      exact e2
    obtain ⟨X, hX⟩ : ∃ X, ((((Ws.setCell ⟨w.heap.size + 1, 0, none⟩ (.slice (some ⟨pb, 0, none⟩) 0 0)).setCell ⟨w.heap.size + 1, 1, none⟩ (.slice none 0 0)).setCell ⟨w.heap.size + 1, 2, none⟩ (.int .i64 0)).setCell ⟨w.heap.size + 1, 3, none⟩ (.int .i64 1)).setCell ⟨w.heap.size + 1 + 1, 0, none⟩ (.int .i64 0) = X := ⟨_, rfl⟩
    rw [hX] at p1 p2 hfin ⊢
    have hbY := Below.new (w := X) (.cells #[.int .i64 0] 323)
    have y0' := (hbY.block _ (lt_of_block p1)).trans p1
    have y1' := (hbY.block _ (lt_of_block p2)).trans p2
    obtain ⟨Y, hY⟩ : ∃ Y, X.alloc (.cells #[.int .i64 0] 323) = Y := ⟨_, rfl⟩
    rw [hY] at y0' y1' hfin ⊢
    clear hY hX hbY p1 p2 e1 e2 HF y0 y1 y2 y3 yf z0 zf
    obtain ⟨z0, z1, z2, z3, -⟩ := four_cells y0'
    obtain ⟨z4, -⟩ := one_cell y1'
    simp [Leaves, settle, results, Tryz.results164, go_sem, z0, z1, z2, z3, z4, asAddr]
    exact hfin
end Go.Proofs.YtdeccekeknlnoaaGreatDoor
