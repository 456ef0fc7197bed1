/- Chapter 38: package parse: the tokens of "accept;", Depth, the deferred closure. | Chapter 38: parse.Of("accept;"). -/
import Derived.Test.YtdeccekeknlnoaaGreatDoorJPrA
import Derived.Test.YtdeccekeknlnoaaGreatDoorJPoLxC
import Derived.Test.YtdeccekeknlnoaaGreatDoorJPoTreeW
namespace Go.Proofs.YtdeccekeknlnoaaGreatDoor
open Go.RowKit
/-- "accept;" -/
def acc : ByteArray := ⟨#[97, 99, 99, 101, 112, 116, 59]⟩
def accToks : List Po.Tok := [⟨1, [97, 99, 99, 101, 112, 116], 0⟩, ⟨3, [59], 0⟩]
theorem acc_toks : Po.toks acc.data.toList = (accToks, 0) := by decide
theorem toks2_of {w : World} {B : Nat} {v : Value} (h : RToks w B v accToks) (hB : B ≤ w.heap.size) : Toks2 w v := by
  obtain ⟨A, c, rfl, -, -, h4⟩ := h
  obtain ⟨b, o, rfl, hlt, hc⟩ := h4 (by decide)
  obtain ⟨a0, x0, x1, x2, x3⟩ := hc 0 _ rfl
  obtain ⟨a1, y0, y1, y2, y3⟩ := hc 1 _ rfl
  exact ⟨b, o, c, rfl, by omega, x0, x1, y0, y1⟩
set_option maxRecDepth 1000000 in
set_option maxHeartbeats 600000 in
theorem pr_depth (v : Value) (w : World) (h : RToks w w.heap.size v accToks) :
    Calls Tryz.prog 156 #[v] w fun e w' => e = .returned (.int .i64 0) ∧ Below w.heap.size w w' := by
  obtain ⟨A, c, rfl, -, -, h4⟩ := h
  obtain ⟨b, o, rfl, hlt, hc⟩ := h4 (by decide)
  obtain ⟨a0, x0, x1, x2, x3⟩ := hc 0 _ rfl
  obtain ⟨a1, y0, y1, y2, y3⟩ := hc 1 _ rfl
  rw [show accToks.length = 2 from rfl]
  simp only [Nat.zero_mul, Nat.one_mul, Nat.add_zero] at x0 x1 x2 x3 y0 y1 y2 y3
  obtain ⟨S, hS⟩ : ∃ S : Ending → World → Prop, (fun e w' => e = .returned (.int .i64 0) ∧ Below w.heap.size w w') = S := ⟨_, rfl⟩
  rw [hS]
  have HSS := Lib.hid hS
  have hw1 : ∀ X, (w.alloc X).cell? ⟨b, o + 4, none⟩ = some _ := fun X => al_cell X y0
  have hw2 : ∀ X, (w.alloc X).cell? ⟨b, o + 4 + 1, none⟩ = some _ := fun X => al_cell X y1
  have hw3 : ∀ X, (w.alloc X).cell? ⟨b, o + 4 + 2, none⟩ = some _ := fun X => al_cell X y2
  have hw4 : ∀ X, (w.alloc X).cell? ⟨b, o + 4 + 3, none⟩ = some _ := fun X => al_cell X y3
  clear hS h4 hc
  go_enter Tryz.func156, Tryz.ntmps156
  go_wp2_with fail
  refine wp_loop_rounds 3 ?_
  rw [rounds_succ]
  go_wp2_with fail
  rw [rounds_succ]
  go_wp2_with fail
  rw [rounds_succ]
  go_wp2_with fail
  rw [← HSS.out]
  exact ⟨rfl, (((Below.refl _ _).alloc (Nat.le_refl _) _).alloc (by simp) _)⟩
/-- the rest of a region, behind a structure: else every tactic runs it -/
structure WS (P : Program) (ops : Array Oper) (Q : Exit → Act → List Frame → World → Prop) (l : List Nat) (a : Act) (cs : List Frame) (w : World) : Prop where
  out : wpOpsS P ops Q l a cs w
section
variable {P : Program} {ops : Array Oper} {Q : Exit → Act → List Frame → World → Prop} {i : Nat} {rest : List Nat} {o : Oper} {a : Act} {cs : List Frame} {w w' : World} {v : Value}
theorem sS_value (ho : ops[i]? = some o) (hg : o.guard = none) (hr : (execOp a.eval o).run P w = .ok (.value v) w') (h : WS P ops Q rest (a.put o.dst v) cs w') : WS P ops Q (i :: rest) a cs w := by
  have hw : Region.wanted o (yielded ops a.tmps) = true := by simp [Region.wanted, hg]
  constructor
  simp only [wpOpsS, ho, hw, if_true, hr]
  exact h.out
theorem sS_skip (ho : ops[i]? = some o) (hg : o.guard = none) (hr : (execOp a.eval o).run P w = .ok .skip w') (h : WS P ops Q rest (a.put o.dst undef) cs w') : WS P ops Q (i :: rest) a cs w := by
  have hw : Region.wanted o (yielded ops a.tmps) = true := by simp [Region.wanted, hg]
  constructor
  simp only [wpOpsS, ho, hw, if_true, hr]
  exact h.out
theorem sS_none (ho : ops[i]? = some o) (hg : o.guard = none) (hr : (execOp a.eval o).run P w = .ok .recover w') (hc : recoverD cs = none) (h : WS P ops Q rest (a.put o.dst .nilIface) cs w') : WS P ops Q (i :: rest) a cs w := by
  have hw : Region.wanted o (yielded ops a.tmps) = true := by simp [Region.wanted, hg]
  constructor
  simp only [wpOpsS, ho, hw, if_true, hr, hc]
  exact h.out
theorem sS_nil (h : Q .normal a cs w) : WS P ops Q [] a cs w := ⟨h⟩
end
set_option maxRecDepth 1000000 in
set_option maxHeartbeats 600000 in
theorem pr_idle (a b : Nat) (w : World) :
    CallsD Tryz.prog 157 #[.pointer (some ⟨a, 0, none⟩), .pointer (some ⟨b, 0, none⟩)] .returning w fun e u' w' => e = .returned (.tuple #[]) ∧ u' = .returning ∧ w' = w.alloc (.cells #[] 263) := by
  refine callsD_of_wpS Tryz.func157 rfl fun c₀ cs hu => ?_
  apply wpS_seq
  apply wpS_region
  have hrec : recoverD (c₀ :: cs) = none := by simp [recoverD, hu]
  change wpOpsS _ _ _ [0, 1, 2, 3, 4, 5, 6, 7] { tmps := #[.pointer (some ⟨a, 0, none⟩), .pointer (some ⟨b, 0, none⟩), undef, undef, undef, undef, undef, undef, undef, undef, undef], defers := [] } _ _
  refine WS.out ?_
  refine sS_none (o := ({ dst := some 5, op := Op.call { callee := Callee.builtin Builtin.recover, args := #[], argTypes := #[] }, type := 20, pos := "parse.go:54", after := #[], guard := none } : Oper)) (w' := w) rfl rfl (by kernel_rfl) hrec ?_
  try simp only [Act.put, List.setIfInBounds_toArray, List.set_cons_zero, List.set_cons_succ]
  refine sS_value (o := ({ dst := some 6, op := Op.typeAssert (Operand.tmp 5) 20 263 true, type := 264, pos := "parse.go:54", after := #[{ on := 0, ground := Ground.data }], guard := none } : Oper)) (v := .tuple #[.agg #[], .bool false]) (w' := w) rfl rfl (by kernel_rfl) ?_
  try simp only [Act.put, List.setIfInBounds_toArray, List.set_cons_zero, List.set_cons_succ]
  refine sS_value (o := ({ dst := some 4, op := Op.move (Operand.tmp 6), type := 264, pos := "parse.go:54", after := #[{ on := 1, ground := Ground.data }], guard := none } : Oper)) (v := .tuple #[.agg #[], .bool false]) (w' := w) rfl rfl (by kernel_rfl) ?_
  try simp only [Act.put, List.setIfInBounds_toArray, List.set_cons_zero, List.set_cons_succ]
  refine sS_value (o := ({ dst := some 7, op := Op.extract (Operand.tmp 4) 0, type := 263, pos := "parse.go:54", after := #[{ on := 2, ground := Ground.data }], guard := none } : Oper)) (v := .agg #[]) (w' := w) rfl rfl (by kernel_rfl) ?_
  try simp only [Act.put, List.setIfInBounds_toArray, List.set_cons_zero, List.set_cons_succ]
  refine sS_value (o := ({ dst := some 8, op := Op.extract (Operand.tmp 4) 1, type := 4, pos := "parse.go:54", after := #[{ on := 2, ground := Ground.data }, { on := 6, ground := Ground.gcOnly Departure.lateStores }], guard := none } : Oper)) (v := .bool false) (w' := w) rfl rfl (by kernel_rfl) ?_
  try simp only [Act.put, List.setIfInBounds_toArray, List.set_cons_zero, List.set_cons_succ]
  refine sS_value (o := ({ dst := some 2, op := Op.alloc 263, type := 0, pos := "parse.go:54", after := #[], guard := none } : Oper)) (v := .pointer (some ⟨w.heap.size, 0, none⟩)) (w' := w.alloc (.cells #[] 263)) rfl rfl (by kernel_rfl) ?_
  try simp only [Act.put, List.setIfInBounds_toArray, List.set_cons_zero, List.set_cons_succ]
  refine sS_skip (o := ({ dst := none, op := Op.store 263 (Operand.tmp 2) (Operand.tmp 7), type := 0, pos := "parse.go:54", after := #[{ on := 5, ground := Ground.data }, { on := 3, ground := Ground.data }, { on := 0, ground := Ground.chain }, { on := 0, ground := Ground.phase }, { on := 1, ground := Ground.phase }, { on := 2, ground := Ground.phase }, { on := 3, ground := Ground.phase }, { on := 4, ground := Ground.textOnly Departure.lateStores }, { on := 5, ground := Ground.phase }], guard := none } : Oper)) (w' := w.alloc (.cells #[] 263)) rfl rfl (by kernel_rfl) ?_
  try simp only [Act.put]
  refine sS_value (o := ({ dst := some 3, op := Op.assign (Operand.tmp 8), type := 4, pos := "parse.go:54", after := #[{ on := 4, ground := Ground.data }, { on := 6, ground := Ground.chain }, { on := 0, ground := Ground.phase }, { on := 1, ground := Ground.phase }, { on := 2, ground := Ground.phase }, { on := 3, ground := Ground.phase }, { on := 4, ground := Ground.phase }, { on := 5, ground := Ground.phase }, { on := 6, ground := Ground.phase }], guard := none } : Oper)) (v := .bool false) (w' := w.alloc (.cells #[] 263)) rfl rfl (by kernel_rfl) ?_
  try simp only [Act.put, List.setIfInBounds_toArray, List.set_cons_zero, List.set_cons_succ]
  refine sS_nil ?_
  change Code.wpS _ _ _ _ _ _
  refine wpS_of_wp ?_
  go_wp2_with fail
  cases c₀
  simp_all [bodyPostS, results, Tryz.results157]
end Go.Proofs.YtdeccekeknlnoaaGreatDoor

namespace Go.Proofs.YtdeccekeknlnoaaGreatDoor
open Go.RowKit
/-- the program of "accept;" -/
def ProgV (w : World) (v : Value) : Prop := ∃ g c h c', v = .agg #[.slice none 0 0, .slice (some ⟨g, 0, none⟩) 2 c, .int .i64 1, .int .i64 0] ∧ g < w.heap.size ∧ h < w.heap.size ∧
  w.rangeAt g 0 [.int .i64 16, .int .i64 0, .string ⟨#[]⟩, .slice none 0 0, .int .i64 17, .int .i64 0, .string ⟨#[]⟩, .slice (some ⟨h, 0, none⟩) 1 c'] ∧ w.cell? ⟨h, 0, none⟩ = some (.int .i64 0)
theorem ProgV.below {w w' : World} {v : Value} (h : ProgV w v) (hb : Below w.heap.size w w') : ProgV w' v := by
  obtain ⟨g, c, h, c', h1, h2, h3, h4, h5⟩ := h
  exact ⟨g, c, h, c', h1, Nat.lt_of_lt_of_le h2 hb.size, Nat.lt_of_lt_of_le h3 hb.size, fun j u hu => (hb.cell (p := ⟨g, 0 + j, none⟩) h2).trans (h4 j u hu), (hb.cell (p := ⟨h, 0, none⟩) h3).trans h5⟩
theorem own_one {w : World} {base : Nat} {e : TypeId} {v x : Value} (h : w.ownsRow base e 1 v (0 + 1) ([] ++ [x])) : ∃ g c, v = .slice (some ⟨g, 0, none⟩) 1 c ∧ base ≤ g ∧ g < w.heap.size ∧ w.cell? ⟨g, 0, none⟩ = some x := by
  obtain ⟨-, h2 | ⟨g, cap, cur, h3, h4, h5, h6, h7, h8, h9⟩⟩ := id h
  · have := h2.2
    omega
  · subst h3
    have := own_range (n := 1) h 0 x rfl
    exact ⟨g, cap, rfl, h4, lt_of_block h5, this⟩
theorem own_two {w : World} {base size n : Nat} {e : TypeId} {v : Value} {xs : List Value} (h : w.ownsRow base e size v (n + 1) xs) : ∃ g c, v = .slice (some ⟨g, 0, none⟩) (n + 1) c ∧ g < w.heap.size := by
  obtain ⟨-, h2 | ⟨g, cap, cur, h3, h4, h5, h6, h7, h8, h9⟩⟩ := id h
  · have := h2.2
    omega
  · exact ⟨g, cap, h3, lt_of_block h5⟩
theorem six_cells {w : World} {p : Nat} {x0 x1 x2 x3 x4 x5 : Value} {t : TypeId} (h : w.heap[p]? = some (.cells #[x0, x1, x2, x3, x4, x5] t (0, 0))) :
    w.cell? ⟨p, 0, none⟩ = some x0 ∧ w.cell? ⟨p, 1, none⟩ = some x1 ∧ w.cell? ⟨p, 2, none⟩ = some x2 ∧ w.cell? ⟨p, 3, none⟩ = some x3 ∧ w.cell? ⟨p, 4, none⟩ = some x4 ∧ w.cell? ⟨p, 5, none⟩ = some x5 ∧ ∀ o, w.frozen? ⟨p, o, none⟩ = false := by
  refine ⟨?_, ?_, ?_, ?_, ?_, ?_, fun o => ?_⟩ <;> simp [World.cell?, World.frozen?, h]
def PrOf (w : World) (e : Ending) (w' : World) : Prop := ∃ v, e = .returned (.tuple #[v, .int .i64 0]) ∧ ProgV w' v ∧ Below w.heap.size w w'
set_option maxRecDepth 1000000 in
set_option maxHeartbeats 600000 in
theorem pr_of (w : World) (hg : Gl w) : Calls Tryz.prog 120 #[.string acc] w (PrOf w) := by
  have hmf : ∀ (fn : Fn) (first cap : Array Value) (w : World), (Instr.makeFunc fn first cap).run Tryz.prog w = .ok (.func fn first cap) w := fun _ _ _ _ => rfl
  obtain ⟨S, hS⟩ : ∃ S, PrOf w = S := ⟨_, rfl⟩
  rw [hS]
  have HSS := Lib.hid hS
  obtain ⟨W0, hW0⟩ : ∃ X, (w.alloc (.cells #[.slice none 0 0, .slice none 0 0, .int .i64 0, .int .i64 0] 217)).alloc (.cells #[.int .i64 0] 31) = X := ⟨_, rfl⟩
  have hb0 : Below w.heap.size w W0 := by rw [← hW0]; exact ((Below.refl _ _).alloc (Nat.le_refl _) _).alloc (by simp) _
  have hs0 : W0.heap.size = w.heap.size + 2 := by rw [← hW0]; simp
  have r0 : W0.heap[w.heap.size]? = some (.cells #[.slice none 0 0, .slice none 0 0, .int .i64 0, .int .i64 0] 217 (0, 0)) := by
    rw [← hW0]
    exact (Below.heap_alloc _ _ _ (by simp)).trans (heap_alloc_new _ _)
  have r1 : W0.heap[w.heap.size + 1]? = some (.cells #[.int .i64 0] 31 (0, 0)) := by
    rw [← hW0]
    have e := heap_alloc_new (w.alloc (.cells #[.slice none 0 0, .slice none 0 0, .int .i64 0, .int .i64 0] 217)) (.cells #[.int .i64 0] 31)
    rwa [World.size_alloc] at e
  have hg0 : Gl W0 := hg.mem hb0
  have HTK := Lib.hid (lx_tokens acc W0 hg0)
  unfold TokSays at HTK
  rw [acc_toks] at HTK
  have H0 := Lib.hid (And.intro hb0 (And.intro hs0 (And.intro r0 r1)))
  clear hS hg hb0 hs0 r0 r1 hg0
  obtain ⟨T, hT⟩ : ∃ T, acc = T := ⟨_, rfl⟩
  rw [hT] at HTK ⊢
  clear hT
  go_enter_defers Tryz.func120, Tryz.ntmps120
  go_upto_region 1 with fail
  clear hW0
  go_wp2_with fail
  refine HTK.out.mono ?_
  rintro e W1 ⟨v, rfl, hrt, hb1⟩
  have q0 := (hb1.block w.heap.size (by have := H0.out.2.1; omega)).trans H0.out.2.2.1
  have q1 := (hb1.block (w.heap.size + 1) (by have := H0.out.2.1; omega)).trans H0.out.2.2.2
  obtain ⟨ce, fe⟩ := one_cell q1
  have hs1 : w.heap.size + 2 ≤ W1.heap.size := by have := H0.out.2.1; have := hb1.size; omega
  have hbw1 : Below w.heap.size w W1 := H0.out.1.trans (hb1.mono H0.out.1.size)
  have H1 := Lib.hid (And.intro q0 (And.intro q1 (And.intro hs1 (And.intro hbw1 hrt))))
  clear q0 q1 hs1 hbw1 hb1 hrt
  go_upto_region 2 with fail
  obtain ⟨q0, q1, hs1, hbw1, hrt⟩ := H1.out
  have p1 := heap_set q1 0 (.int .i64 0)
  have p0 : (W1.setCell ⟨w.heap.size + 1, 0, none⟩ (.int .i64 0)).heap[w.heap.size]? = _ := (set_other W1 (w.heap.size + 1) 0 (.int .i64 0) w.heap.size (by omega)).trans q0
  have hbw2 : Below w.heap.size w (W1.setCell ⟨w.heap.size + 1, 0, none⟩ (.int .i64 0)) := hbw1.setCell (p := ⟨w.heap.size + 1, 0, none⟩) (Nat.le_succ _) _
  have hrt2 : RToks (W1.setCell ⟨w.heap.size + 1, 0, none⟩ (.int .i64 0)) W1.heap.size v accToks := by
    obtain ⟨A, c, h1, h2, h3, h4⟩ := hrt
    refine ⟨A, c, h1, h2, h3, fun hn => ?_⟩
    obtain ⟨b, o, hA, hlt, hc⟩ := h4 hn
    refine ⟨b, o, hA, hlt, fun i x hx => ?_⟩
    obtain ⟨a, a0, a1, a2, a3⟩ := hc i x hx
    have hne : b ≠ w.heap.size + 1 := by
      rintro rfl
      match i, x, hx with
      | 0, x, hx =>
        cases hx
        rw [cell_of_row _ _ _ _ _ _ q1] at a0 a1
        match o, a0, a1 with
        | 0, a0, a1 => simp at a1
        | o + 1, a0, a1 => simp at a0
      | 1, x, hx =>
        cases hx
        rw [cell_of_row _ _ _ _ _ _ q1] at a0
        simp at a0
      | i + 2, x, hx => simp [accToks] at hx
    have hh : ∀ o', (W1.setCell ⟨w.heap.size + 1, 0, none⟩ (.int .i64 0)).cell? ⟨b, o', none⟩ = W1.cell? ⟨b, o', none⟩ := fun o' => World.cell?_of_block (set_other _ _ _ _ _ hne)
    exact ⟨a, (hh _).trans a0, (hh _).trans a1, (hh _).trans a2, (hh _).trans a3⟩
  have hs2 : (W1.setCell ⟨w.heap.size + 1, 0, none⟩ (.int .i64 0)).heap.size = W1.heap.size := by simp [World.setCell]
  obtain ⟨W2, hW2⟩ : ∃ X, W1.setCell ⟨w.heap.size + 1, 0, none⟩ (.int .i64 0) = X := ⟨_, rfl⟩
  rw [hW2] at p0 p1 hbw2 hrt2 hs2 ⊢
  rw [← hs2] at hrt2
  have hs2' : w.heap.size + 2 ≤ W2.heap.size := by omega
  obtain ⟨ce2, fe2⟩ := one_cell p1
  have HD := Lib.hid (pr_depth v W2 hrt2)
  have H2 := Lib.hid (And.intro p0 (And.intro p1 (And.intro hbw2 (And.intro hrt2 hs2'))))
  clear q0 q1 hs1 hbw1 hrt p0 p1 hbw2 hrt2 hs2 hs2' hW2 ce fe H1
  go_upto_region 6 with (go_at_call 156; refine HD.out.mono ?_; rintro e W3 ⟨rfl, hb3⟩)
  obtain ⟨p0, p1, hbw2, hrt2, hs2⟩ := H2.out
  have p0 := (hb3.block _ (by omega)).trans p0
  have p1 := (hb3.block _ (by omega)).trans p1
  have hbw3 : Below w.heap.size w W3 := hbw2.trans (hb3.mono (by omega))
  have ht3 : Toks2 W3 v := (toks2_of hrt2 (Nat.le_refl _)).below hb3
  have hs3 : w.heap.size + 2 ≤ W3.heap.size := by have := hb3.size; omega
  obtain ⟨b, o, c, hv, -⟩ := id ht3
  subst hv
  have hb4 := Below.new (w := W3) (.cells #[.slice (some ⟨b, o, none⟩) 2 c, .int .i64 0, .slice none 0 0, .slice none 0 0, .int .i64 0, .int .i64 0] 267)
  have e4 := heap_alloc_new W3 (.cells #[.slice (some ⟨b, o, none⟩) 2 c, .int .i64 0, .slice none 0 0, .slice none 0 0, .int .i64 0, .int .i64 0] 267)
  obtain ⟨W4, hW4⟩ : ∃ X, W3.alloc (.cells #[.slice (some ⟨b, o, none⟩) 2 c, .int .i64 0, .slice none 0 0, .slice none 0 0, .int .i64 0, .int .i64 0] 267) = X := ⟨_, rfl⟩
  have hs4 : W4.heap.size = W3.heap.size + 1 := by rw [← hW4]; simp
  rw [hW4] at hb4 e4
  obtain ⟨q, hq⟩ : ∃ q, W3.heap.size = q := ⟨_, rfl⟩
  rw [hq] at e4 hs4 hs3
  have p4 : PrAt W4 q (.slice (some ⟨b, o, none⟩) 2 c) 0 (.slice none 0 0) := e4
  have t4 := ht3.below hb4
  have HM := Lib.hid (pr_may_no 0 (.inl rfl) ⟨#[105, 110, 112, 117, 116]⟩ (by rfl) W4 p4 t4)
  have H4 := Lib.hid (And.intro ((hb4.block _ (by rw [hq]; omega)).trans p0) (And.intro ((hb4.block _ (by rw [hq]; omega)).trans p1) (And.intro (hbw3.trans (hb4.mono (by rw [hq]; omega))) (And.intro p4 (And.intro t4 (And.intro hs3 hs4))))))
  clear p0 p1 hbw2 hrt2 hs2 hbw3 ht3 hs3 hb4 e4 p4 t4 H2 hs4 hb3 ce2 fe2
  go_upto_region 7 with fail
  go_upto_region 8 with fail
  clear hW4 hq
  refine wp_loop_rounds 1 ?_
  rw [rounds_succ]
  go_upto_region 10 with (go_at_call 158; refine HM.out.mono ?_; rintro e W5 ⟨rfl, hb5⟩)
  obtain ⟨p0, p1, hbw4, p4, t4, hs3, hs4⟩ := H4.out
  have p0 := (hb5.block _ (by omega)).trans p0
  have p1 := (hb5.block _ (by omega)).trans p1
  have hbw5 := hbw4.trans (hb5.mono hbw4.size)
  have p5 := PrAt.below hb5 p4
  have t5 := t4.below hb5
  obtain ⟨-, d1, -, -, -, -, df⟩ := p5.cells
  have HST := Lib.hid (pr_stmt W5 p5 t5)
  have H5 := Lib.hid (And.intro p0 (And.intro p1 (And.intro hbw5 (And.intro hs3 (show q + 1 ≤ W5.heap.size by have := hb5.size; omega)))))
  clear p0 p1 hbw4 p4 t4 hs3 hs4 hbw5 p5 t5 hb5 H4 HM
  go_upto_region 11 with fail
  refine wp_loop_rounds 2 ?_
  rw [rounds_succ]
  go_upto_region 12 with fail
  obtain ⟨i0, hi, hz0, hz1, hz2⟩ := info_parts int_info
  have hone : ∀ u ∈ ([.int .i64 0] : List Value), u.oneCell' = true := by
    intro u hu
    simp only [List.mem_singleton] at hu
    subst hu
    rfl
  go_wp2_with (first
    | (go_at_call 160; refine HST.out.mono ?_; rintro e W6 ⟨rfl, vn, p6, r6, a6⟩)
    | (at_builtin; refine wpList_append_own _ rfl (.tmp 35) (.tmp 38) 41 rfl W6.heap.size 3 i0 (.int .i64 0) 1 8 Tryz.underlying41 hi hz0 hz1 hz2 rfl (by decide) (.slice none 0 0) 0 [] rfl (World.ownsRow_nil _ _ _ _) ⟨W6.heap.size, 0, none⟩ 1 1 [.int .i64 0] rfl rfl (cell_one_new _ _ _) hone (by decide) (by decide) (by simp) ?_; intro v7 W7 hown7 hgr7 _))
  obtain ⟨p0, p1, hbw5, hs3, hs5⟩ := H5.out
  have hb7 : Below W6.heap.size W6 W7 := (Below.new (w := W6) (.cells #[.int .i64 0] 3)).trans ((grown_none hgr7).mono (by simp))
  have a7 : Ate q W5 W7 := Ate.below hb7 a6
  have p7 := PrAt.below hb7 p6
  have hgr : ∀ k, vn.ownBlock = some k → k < W6.heap.size := fun k hk => r6.lt k hk |>.2
  have r7 : W7.ownsRow (q + 1) 271 4 vn 1 _ := own_frame r6 (fun k hk => hb7.block k (hgr k hk))
  have p0 := (a7.block _ (by omega) (by omega)).trans p0
  have p1 := (a7.block _ (by omega) (by omega)).trans p1
  obtain ⟨h7, c7, rfl, hh7, hi7, hc7⟩ := own_one hown7
  have hsz7 := a7.size
  obtain ⟨-, d1, -, -, -, -, df⟩ := p7.cells
  have HN := Lib.hid (pr_node 2 1 (by decide) _ 17 0 ⟨#[]⟩ (.slice (some ⟨h7, 0, none⟩) 1 c7) rfl W7 p7 r7)
  have hof7 : Below w.heap.size w W7 := ⟨a7.os.trans hbw5.os, a7.tape.trans hbw5.tape, a7.output.trans hbw5.output, by omega, fun k hk => (a7.block k (by omega) (by omega)).trans (hbw5.block k hk)⟩
  have hne7 : some h7 ≠ vn.ownBlock := by
    intro e
    have := hgr h7 e.symm
    omega
  have hq7 : q < h7 := by have := a6.size; omega
  have H7 := Lib.hid (And.intro p0 (And.intro p1 (And.intro hof7 (And.intro hs3 (And.intro hh7 (And.intro hi7 (And.intro hc7 (And.intro hne7 (And.intro hq7 hgr)))))))))
  have hvn : ∀ k, vn.ownBlock = some k → q < k := fun k hk => (r6.lt k hk).1
  have HVN := Lib.hid hvn
  clear p0 p1 hbw5 hs3 hs5 hb7 a7 p7 hgr r7 hown7 hgr7 hh7 hi7 hc7 hsz7 hof7 hne7 hq7 p6 r6 a6 hi hz0 hz1 hz2 hone H5 hvn
  rw [rounds_succ]
  go_upto_region 13 with fail
  go_upto_region 14 with (go_at_call 161; refine HN.out.mono ?_; rintro e W8 ⟨rfl, vn8, p8, r8, o8, bl8⟩; obtain ⟨-, -, -, -, d4, -, df8⟩ := p8.cells; have HP8 := Lib.hid p8; clear p8)
  have p9 := heap_set HP8.out 4 (.int .i64 1)
  simp only [List.setIfInBounds_toArray, List.set_cons_zero, List.set_cons_succ] at p9
  obtain ⟨p0, p1, hof7, hs3, hh7, hi7, hc7, hne7, hq7, hgr⟩ := H7.out
  have hsz8 := o8.2.2.2
  have hq8 : q < W7.heap.size := by omega
  obtain ⟨W9, hW9⟩ : ∃ X, W8.setCell ⟨q, 4, none⟩ (.int .i64 1) = X := ⟨_, rfl⟩
  have hs9 : W9.heap.size = W8.heap.size := by rw [← hW9]; simp [World.setCell]
  have bl9 : ∀ k, k < W7.heap.size → k ≠ q → some k ≠ vn.ownBlock → W9.heap[k]? = W7.heap[k]? := fun k h1 h2 h3 => by
    rw [← hW9, set_other _ _ _ _ _ h2]
    exact bl8 k h1 h2 h3
  have r9 : W9.ownsRow (q + 1) 271 4 vn8 2 _ := own_frame r8 (fun k hk => by
    rw [← hW9]
    exact set_other _ _ _ _ _ (by have := (r8.lt k hk).1; omega))
  have ho9 : W9.os = W7.os ∧ W9.tape = W7.tape ∧ W9.output = W7.output := by rw [← hW9]; exact ⟨o8.1, o8.2.1, o8.2.2.1⟩
  rw [hW9] at p9 ⊢
  have p0 := (bl9 _ (by omega) (by omega) (by intro e; have := HVN.out _ e.symm; omega)).trans p0
  have p1 := (bl9 _ (by omega) (by omega) (by intro e; have := HVN.out _ e.symm; omega)).trans p1
  have c7' : W9.cell? ⟨h7, 0, none⟩ = some (.int .i64 0) := (World.cell?_of_block (bl9 h7 hi7 (by omega) hne7)).trans hc7
  have hof9 : Below w.heap.size w W9 := ⟨ho9.1.trans hof7.os, ho9.2.1.trans hof7.tape, ho9.2.2.trans hof7.output, by have := hof7.size; omega, fun k hk => (bl9 k (by omega) (by omega) (by intro e; have := HVN.out _ e.symm; omega)).trans (hof7.block k hk)⟩
  obtain ⟨g9, c9, hv9, hg9⟩ := own_two r9
  subst hv9
  have hR9 := own_range (n := 2) r9
  have hg9q := (r9.lt g9 rfl).1
  obtain ⟨e0, e1, e2, e3, e4, e5, ef⟩ := six_cells p9
  obtain ⟨f0, f1, f2, f3, ff⟩ := four_cells p0
  obtain ⟨g0, gf⟩ := one_cell p1
  have H9 := Lib.hid (And.intro p0 (And.intro p1 (And.intro c7' (And.intro hof9 (And.intro hR9 (And.intro hg9 (And.intro hg9q (And.intro hs9 (And.intro hsz8 (And.intro hi7 (And.intro hs3 hq7)))))))))))
  clear p0 p1 c7' hof9 hR9 hg9 hg9q hs9 hsz8 hi7 hs3 hq7 r9 r8 bl8 bl9 o8 ho9 hh7 hc7 hne7 hgr hW9 p9 hof7 H7 HVN hq8 d4 df8
  go_upto_region 16 with fail
  go_wp2_with fail
  refine leaves_cons (f := 157) (args := #[.pointer (some ⟨w.heap.size, 0, none⟩), .pointer (some ⟨w.heap.size + 1, 0, none⟩)]) (by simp) (by simp [go_sem]) ?_
  refine (pr_idle w.heap.size (w.heap.size + 1) _).mono ?_
  rintro e u' w4 ⟨rfl, rfl, rfl⟩
  obtain ⟨p0, p1, c7', hof9, hR9, hg9, hg9q, hs9, hsz8, hi7, hs3, hq7⟩ := H9.out
  obtain ⟨X, hX⟩ : ∃ X, (((((W9.setCell ⟨w.heap.size, 0, none⟩ (.slice none 0 0)).setCell ⟨w.heap.size, 1, none⟩ (.slice (some ⟨g9, 0, none⟩) 2 c9)).setCell ⟨w.heap.size, 2, none⟩ (.int .i64 1)).setCell ⟨w.heap.size, 3, none⟩ (.int .i64 0)).setCell ⟨w.heap.size + 1, 0, none⟩ (.int .i64 0)) = X := ⟨_, rfl⟩
  have k0 : X.heap[w.heap.size]? = some (.cells #[.slice none 0 0, .slice (some ⟨g9, 0, none⟩) 2 c9, .int .i64 1, .int .i64 0] 217 (0, 0)) := by
    rw [← hX, set_other _ _ _ _ _ (by omega)]
    have := heap_set (heap_set (heap_set (heap_set p0 0 (.slice none 0 0)) 1 (.slice (some ⟨g9, 0, none⟩) 2 c9)) 2 (.int .i64 1)) 3 (.int .i64 0)
    simpa using this
  have k1 : X.heap[w.heap.size + 1]? = some (.cells #[.int .i64 0] 31 (0, 0)) := by
    have h1 := ((below_set4 W9 w.heap.size (.slice none 0 0) (.slice (some ⟨g9, 0, none⟩) 2 c9) (.int .i64 1) (.int .i64 0)))
    rw [← hX]
    refine set_one (a := .int .i64 0) ?_
    rw [set_other _ _ _ _ _ (by omega), set_other _ _ _ _ _ (by omega), set_other _ _ _ _ _ (by omega), set_other _ _ _ _ _ (by omega)]
    exact p1
  have hx : X.heap.size = W9.heap.size ∧ X.os = W9.os ∧ X.tape = W9.tape ∧ X.output = W9.output ∧ ∀ k, k ≠ w.heap.size → k ≠ w.heap.size + 1 → X.heap[k]? = W9.heap[k]? := by
    rw [← hX]
    refine ⟨by simp [World.setCell], rfl, rfl, rfl, fun k h1 h2 => ?_⟩
    rw [set_other _ _ _ _ _ h2, set_other _ _ _ _ _ h1, set_other _ _ _ _ _ h1, set_other _ _ _ _ _ h1, set_other _ _ _ _ _ h1]
  rw [hX]
  obtain ⟨x1, x2, x3, x4, x5⟩ := hx
  have hbX : Below w.heap.size w X := ⟨x2.trans hof9.os, x3.trans hof9.tape, x4.trans hof9.output, by have := hof9.size; omega, fun k hk => (x5 k (by omega) (by omega)).trans (hof9.block k hk)⟩
  have hP : ProgV X (.agg #[.slice none 0 0, .slice (some ⟨g9, 0, none⟩) 2 c9, .int .i64 1, .int .i64 0]) := ⟨g9, c9, h7, c7, rfl, by omega, by omega, fun j u hu => (World.cell?_of_block (x5 g9 (by omega) (by omega))).trans (hR9 j u hu), (World.cell?_of_block (x5 h7 (by omega) (by omega))).trans c7'⟩
  have hbY := Below.new (w := X) (.cells #[] 263)
  have y0 := (hbY.block _ (lt_of_block k0)).trans k0
  have y1 := (hbY.block _ (lt_of_block k1)).trans k1
  have hend : S (.returned (.tuple #[.agg #[.slice none 0 0, .slice (some ⟨g9, 0, none⟩) 2 c9, .int .i64 1, .int .i64 0], .int .i64 0])) (X.alloc (.cells #[] 263)) := by
    rw [← HSS.out]
    exact ⟨_, rfl, hP.below hbY, hbX.trans (hbY.mono hbX.size)⟩
  obtain ⟨Y, hY⟩ : ∃ Y, X.alloc (.cells #[] 263) = Y := ⟨_, rfl⟩
  rw [hY] at y0 y1 hend ⊢
  clear hY hX hbY hP hbX x1 x2 x3 x4 x5 k0 k1 p0 p1 c7' hof9 hR9 e0 e1 e2 e3 e4 e5 ef f0 f1 f2 f3 ff g0 gf H9
  obtain ⟨z0, z1, z2, z3, -⟩ := four_cells y0
  obtain ⟨z4, -⟩ := one_cell y1
  simp [Leaves, settle, results, Tryz.results120, go_sem, z0, z1, z2, z3, z4, asAddr]
  exact hend
end Go.Proofs.YtdeccekeknlnoaaGreatDoor
