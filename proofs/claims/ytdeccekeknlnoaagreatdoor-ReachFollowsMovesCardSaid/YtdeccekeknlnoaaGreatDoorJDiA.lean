/- Chapter 38: package directory: facts in memory; Valid, Encode. | Chapter 38: package directory: sorting and compacting one entry; words for normal. | Chapter 38: package directory: normal, of at most one fact. -/
import Derived.Test.YtdeccekeknlnoaaGreatDoorJShG
import Derived.Test.YtdeccekeknlnoaaGreatDoorJPoEv
import Derived.Deep.RegionHeld3
import Derived.Deep.AppendLies
namespace Go.Proofs.YtdeccekeknlnoaaGreatDoor
open Go.RowKit
/-- the cells of a fact that a device is bad or a stage revoked -/
def factC (k : Nat) (d : List Nat) : Array Value := (([.int .i64 k, .string ⟨#[]⟩, .int .i64 0, .int .i64 0, .int .i64 0, .slice none 0 0] : List Value) ++ b8 d).toArray
theorem factC_size {k : Nat} {d : List Nat} (h : d.length = 16) : (factC k d).size = 22 := by simp [factC, b8_len, h]
theorem factC_one (k : Nat) (d : List Nat) : (factC k d).all (·.oneCell') = true := by
  rw [Array.all_eq_true_iff_forall_mem]
  intro u hu
  simp only [factC, List.mem_toArray, List.mem_append, List.mem_cons, List.mem_nil_iff, or_false] at hu
  rcases hu with (rfl | rfl | rfl | rfl | rfl | rfl) | hu
  · rfl
  · rfl
  · rfl
  · rfl
  · rfl
  · rfl
  · exact b8_one _ u hu
/-- what lies in a block that holds a fact -/
theorem fact_cells {W : World} {b k : Nat} {d : List Nat} (h : W.heap[b]? = some (.cells (factC k d) 68 (0, 0))) :
    W.cell? ⟨b, 0, none⟩ = some (.int .i64 k) ∧ W.cell? ⟨b, 1, none⟩ = some (.string ⟨#[]⟩) ∧ W.cell? ⟨b, 2, none⟩ = some (.int .i64 0) ∧ W.cell? ⟨b, 3, none⟩ = some (.int .i64 0) ∧ W.cell? ⟨b, 4, none⟩ = some (.int .i64 0) ∧
    W.cell? ⟨b, 5, none⟩ = some (.slice none 0 0) ∧ W.rangeAt b 6 (b8 d) ∧ ∀ o, W.frozen? ⟨b, o, none⟩ = false := by
  refine ⟨?_, ?_, ?_, ?_, ?_, ?_, ?_, fun o => ?_⟩
  case refine_7 =>
    intro j u hu
    simp only [World.cell?, h]
    simp only [factC, List.getElem?_toArray]
    rw [List.getElem?_append_right (by simp)]
    simpa using hu
  all_goals simp [World.cell?, World.frozen?, h, factC]
theorem ld_mid {W : World} {b o n N : Nat} {cs : List Value} (hN : N = n) (h : W.rangeAt b o cs) (hs : cs.length = n) : Sem.run Tryz.prog (loadCellsFrom ⟨b, o, none⟩ 0 N #[]) W = .ok cs.toArray W := by
  have hl := run_loadCells_list (P := Tryz.prog) W ⟨b, o, none⟩ cs (fun j v hv => by rw [Addr.add_mid]; exact h j v hv)
  rw [hN, ← hs]
  show Sem.run _ (loadCells _ _) _ = _
  exact hl
theorem b8_dg (d : List Nat) : b8 d = dgVals d := rfl
structure LetD (R K : Nat) : Prop where
  ty : R = 39
  sz : K = 16
theorem letD : ∃ R K : Nat, LetD R K := ⟨_, _, rfl, rfl⟩
set_option maxRecDepth 100000 in
set_option maxHeartbeats 2000000 in
theorem di_valid (k : Nat) (hk : k = 3 ∨ k = 4) (d : List Nat) (hd : d.length = 16) (w : World) :
    Calls Tryz.prog 36 #[.agg (factC k d)] w fun e w' => e = .returned (.bool true) ∧ Below w.heap.size w w' := by
  obtain ⟨fc, hfc⟩ : ∃ fc, factC k d = fc := ⟨_, rfl⟩
  have e0 := heap_alloc_new w (.cells (factC k d) 68)
  have b0 := Below.new (w := w) (.cells (factC k d) 68)
  obtain ⟨W, hW⟩ : ∃ W, w.alloc (.cells (factC k d) 68) = W := ⟨_, rfl⟩
  rw [hW] at e0 b0
  rw [hfc] at hW ⊢
  obtain ⟨c0, c1, c2, c3, c4, c5, c6, cf⟩ := fact_cells e0
  obtain ⟨R, K, L⟩ := letD
  have hld : ∀ W', Below W.heap.size W W' → Sem.run Tryz.prog (loadCellsFrom ⟨w.heap.size, 6, none⟩ 0 K #[]) W' = .ok (b8 d).toArray W' := fun W' hb => ld_mid L.sz (fun j u hu => (hb.cell (p := ⟨w.heap.size, 6 + j, none⟩) (lt_of_block e0)).trans (c6 j u hu)) (by rw [b8_len, hd])
  have HLD := Lib.hid hld
  obtain ⟨bb, hbb⟩ : ∃ bb, ∀ W', Sem.run Tryz.prog (Op.equalIn 10000 R (.agg (b8 d).toArray) (.agg #[.int .u8 0, .int .u8 0, .int .u8 0, .int .u8 0, .int .u8 0, .int .u8 0, .int .u8 0, .int .u8 0, .int .u8 0, .int .u8 0, .int .u8 0, .int .u8 0, .int .u8 0, .int .u8 0, .int .u8 0, .int .u8 0])) W' = .ok bb W' := ⟨_, fun W' => by rw [L.ty]; exact run_dig (e := List.replicate 16 0) hd (by simp) W'⟩
  have la : ∀ w, Sem.run Tryz.prog (isAgg R) w = .ok true w := fun w => by rw [L.ty]; exact Tryz.isAgg39 w
  have lz : ∀ w, Sem.run Tryz.prog (sizeOf R) w = .ok K w := fun w => by rw [L.ty, L.sz]; exact Tryz.sizeOf39 w
  have hl := HLD.out (W.alloc (.cells #[.int .i64 0, .int .i64 0, .int .i64 0, .slice none 0 0] 45)) (Below.new _)
  have hG : ∀ w, Sem.run Tryz.prog (eqGuard BinOp.eql R (.tmp 28) (.tmp 29) (.agg (b8 d).toArray) (.agg #[.int .u8 0, .int .u8 0, .int .u8 0, .int .u8 0, .int .u8 0, .int .u8 0, .int .u8 0, .int .u8 0, .int .u8 0, .int .u8 0, .int .u8 0, .int .u8 0, .int .u8 0, .int .u8 0, .int .u8 0, .int .u8 0])) w = .ok () w := fun w => by rw [L.ty]; kernel_rfl
  have hlo : ∀ x, Op.load 39 x = Op.load R x := fun x => by rw [L.ty]
  have hop : ∀ a b, Op.binOp BinOp.eql 39 a b 39 = Op.binOp BinOp.eql R a b R := fun a b => by rw [L.ty]
  have d0 := al_cell (.cells #[.int .i64 0, .int .i64 0, .int .i64 0, .slice none 0 0] 45) c0
  have d1 := al_cell (.cells #[.int .i64 0, .int .i64 0, .int .i64 0, .slice none 0 0] 45) c1
  have HW := Lib.hid b0
  clear e0 b0 L HLD hld hfc
  go_enter Tryz.func36, Tryz.ntmps36
  simp only [hlo, hop]
  clear hlo hop
  go_upto_region 1 with fail
  clear hW
  rcases hk with rfl | rfl
  all_goals
    go_wp2_with fail
    go_ret
    exact ⟨rfl, HW.out.trans ((Below.new _).mono (by have := HW.out.size; omega))⟩
theorem ob_conv {w : World} {B g n c : Nat} {bs : List Nat} (h : OB w B (.slice (some ⟨g, 0, none⟩) n c) bs) (hl : bs.length = n) (hn : 0 < n) :
    ∃ s, Sem.run Tryz.prog (convert 52 9 (.slice (some ⟨g, 0, none⟩) n c)) w = .ok (.string s) w := by
  obtain ⟨g', c', hv, -, -, -, -, hc⟩ := h.form hl hn
  cases hv
  refine ⟨_, run_convert_bytes_arg (P := Tryz.prog) w 52 5 Tryz.underlying52 Tryz.underlying5 g 0 n c (bs.map fun (x : Nat) => (x : Int)) (by simpa using hl) (fun i hi => ?_) 9 Tryz.underlying9⟩
  have e := hc i (.int .u8 (bs.getD i 0 : Nat)) (by
    have : bs[i]? = some bs[i] := List.getElem?_eq_getElem (by omega)
    simp [b8, this])
  rw [Addr.add_mid] at e
  rw [e]
  have : bs[i]? = some bs[i] := List.getElem?_eq_getElem (by omega)
  simp [List.getD_eq_getElem?_getD, this]
def SomeStr (w : World) (e : Ending) (w' : World) : Prop := ∃ s, e = .returned (.string s) ∧ Below w.heap.size w w'
set_option maxRecDepth 100000 in
set_option maxHeartbeats 2000000 in
theorem di_encode (k : Nat) (hk : k = 3 ∨ k = 4) (d : List Nat) (hd : d.length = 16) (hb : ∀ x ∈ d, x < 256) (w : World) :
    Calls Tryz.prog 61 #[.agg (factC k d)] w (SomeStr w) := by
  obtain ⟨fc, hfc⟩ : ∃ fc, factC k d = fc := ⟨_, rfl⟩
  have e0 := heap_alloc_new w (.cells (factC k d) 68)
  have b0 := Below.new (w := w) (.cells (factC k d) 68)
  obtain ⟨W, hW⟩ : ∃ W, w.alloc (.cells (factC k d) 68) = W := ⟨_, rfl⟩
  rw [hW] at e0 b0
  rw [hfc] at hW ⊢
  obtain ⟨c0, c1, c2, c3, c4, c5, c6, cf⟩ := fact_cells e0
  have HW := Lib.hid b0
  have HC := Lib.hid (And.intro c0 (And.intro c6 (And.intro hd hb)))
  have HLT := Lib.hid (lt_of_block e0)
  clear e0 b0 hfc c1 c2 c3 c4 c5 cf c6 hd hb
  have hk64 : k < 64 := by omega
  go_enter Tryz.func61, Tryz.ntmps61
  go_wp2_with fail
  refine (wire_int k hk64 W).mono ?_
  rintro e W1 ⟨v1, rfl, ho1, hb1⟩
  obtain ⟨g1, q1, hv1, -⟩ := ho1.form (n := 1) rfl (by decide)
  subst hv1
  have x0 := (hb1.cell (p := ⟨w.heap.size, 0, none⟩) HLT.out).trans c0
  have HO1 := Lib.hid ho1
  have HB1 := Lib.hid hb1
  have HN := Lib.hid (show ∀ j u, (b8 d)[j]? = some u → W1.cell? ((⟨w.heap.size, 6, none⟩ : Addr).add j) = some u from fun j u hu => by rw [Addr.add_mid]; exact (hb1.cell (p := ⟨w.heap.size, 6 + j, none⟩) HLT.out).trans (HC.out.2.1 j u hu))
  clear ho1 hb1 hW c0
  rcases hk with rfl | rfl
  all_goals
    go_wp2_with (at_builtin; refine ap8 rfl _ _ rfl W.heap.size _ _ (by rfl) HO1.out ⟨w.heap.size, 6, none⟩ 16 16 d (by rfl) HC.out.2.2.1 HN.out (by simp) HB1.out.size ?_; intro v' w2 hown2 hb2; obtain ⟨g2, q2, hv2, -⟩ := OB.form (n := 17) hown2 (by rw [List.length_append, HC.out.2.2.1]; rfl) (by decide); subst hv2; obtain ⟨s, hs⟩ := ob_conv hown2 (by rw [List.length_append, HC.out.2.2.1]; rfl) (by decide); have HB2 := Lib.hid hb2; clear hown2 hb2)
    go_ret
    exact ⟨s, rfl, (HW.out.trans (HB1.out.mono HW.out.size)).trans (HB2.out.mono HW.out.size)⟩
end Go.Proofs.YtdeccekeknlnoaaGreatDoor

namespace Go.Proofs.YtdeccekeknlnoaaGreatDoor
open Go.RowKit
set_option maxRecDepth 100000 in
set_option maxHeartbeats 1000000 in
theorem di_sort (g c : Nat) (w : World) :
    Calls Tryz.prog 62 #[.slice (some ⟨g, 0, none⟩) 1 c, .func (.func 63) #[] #[]] w fun e w' => e = .returned (.tuple #[]) ∧ w' = w := by
  go_enter Tryz.func62, Tryz.ntmps62
  go_wp2
  refine wp_loop_rounds 1 ?_
  rw [rounds_succ]
  go_wp2
  refine wp_loop_rounds 1 ?_
  rw [rounds_succ]
  go_wp2
  refine wp_loop_rounds 1 ?_
  rw [rounds_succ]
  go_wp2
  go_end0
  exact ⟨rfl, rfl⟩
set_option maxRecDepth 100000 in
set_option maxHeartbeats 1000000 in
theorem di_compact (g c : Nat) (w : World) :
    Calls Tryz.prog 64 #[.slice (some ⟨g, 0, none⟩) 1 c, .func (.func 65) #[] #[]] w fun e w' => e = .returned (.slice (some ⟨g, 0, none⟩) 1 c) ∧ w' = w := by
  go_enter Tryz.func64, Tryz.ntmps64
  go_wp2
  go_ret
  exact ⟨rfl, rfl⟩
theorem list16 {d : List Nat} (h : d.length = 16) : ∃ a0 a1 a2 a3 a4 a5 a6 a7 a8 a9 aa ab ac ad ae af : Nat, d = [a0, a1, a2, a3, a4, a5, a6, a7, a8, a9, aa, ab, ac, ad, ae, af] := by
  match d, h with
  | [a0, a1, a2, a3, a4, a5, a6, a7, a8, a9, aa, ab, ac, ad, ae, af], _ => exact ⟨a0, a1, a2, a3, a4, a5, a6, a7, a8, a9, aa, ab, ac, ad, ae, af, rfl⟩
theorem build_entry (k : Nat) {d : List Nat} (h : d.length = 16) (s : ByteArray) (w : World) : Sem.run Tryz.prog (Instr.build 133 #[(0, .agg (factC k d)), (1, .string s)]) w = .ok (.agg ((factC k d).push (.string s))) w := by
  obtain ⟨a0, a1, a2, a3, a4, a5, a6, a7, a8, a9, aa, ab, ac, ad, ae, af, rfl⟩ := list16 h
  kernel_rfl
theorem build_entries (k : Nat) {d : List Nat} (h : d.length = 16) (s : ByteArray) (w : World) : Sem.run Tryz.prog (Instr.buildSlice 130 1 #[(0, .agg ((factC k d).push (.string s)))]) w = .ok (.slice (some ⟨w.heap.size, 0, none⟩) 1 1) (w.alloc (.cells ((factC k d).push (.string s)) 133)) := by
  obtain ⟨a0, a1, a2, a3, a4, a5, a6, a7, a8, a9, aa, ab, ac, ad, ae, af, rfl⟩ := list16 h
  kernel_rfl
theorem info_entry : ∃ z, (Tryz.prog.info? 133).map (fun i => (i.zero, i.size, i.bytes)) = some (some z, 23, 104) ∧ z.cells.size = 23 := ⟨.agg ((factC 0 (List.replicate 16 0)).push (.string ⟨#[]⟩)), by kernel_rfl, rfl⟩
theorem info_fact : ∃ z, (Tryz.prog.info? 68).map (fun i => (i.zero, i.size, i.bytes)) = some (some z, 22, 88) ∧ z.cells.size = 22 := ⟨.agg (factC 0 (List.replicate 16 0)), by kernel_rfl, rfl⟩
theorem build_facts (k : Nat) {d : List Nat} (h : d.length = 16) (w : World) : Sem.run Tryz.prog (Instr.buildSlice 22 1 #[(0, .agg (factC k d))]) w = .ok (.slice (some ⟨w.heap.size, 0, none⟩) 1 1) (w.alloc (.cells (factC k d) 68)) := by
  obtain ⟨a0, a1, a2, a3, a4, a5, a6, a7, a8, a9, aa, ab, ac, ad, ae, af, rfl⟩ := list16 h
  kernel_rfl
/-- what has come since, behind a name -/
def Un (W W' : World) : Prop := Below W.heap.size W W'
theorem un_refl (W : World) : Un W W := Below.refl _ _
theorem un_drew (W : World) : Un W W.drew := (Below.refl _ _).drew
theorem un_alloc {W A : World} (h : Un W A) (o : Obj) : Un W (A.alloc o) := Below.alloc h h.size o
theorem un_step {W A B : World} (h : Un W A) (hb : Below A.heap.size A B) : Un W B := Below.trans h (hb.mono h.size)
end Go.Proofs.YtdeccekeknlnoaaGreatDoor

namespace Go.Proofs.YtdeccekeknlnoaaGreatDoor
open Go.RowKit
theorem grown_none {w w' : World} (h : w.grownBy w' none) : Below w.heap.size w w' := ⟨h.os, h.tape, h.output, h.size, fun k hk => h.block k hk (by simp)⟩
theorem own_range {w : World} {base size g n cap : Nat} {e : TypeId} {xs : List Value} (h : w.ownsRow base e size (.slice (some ⟨g, 0, none⟩) n cap) n xs) : w.rangeAt g 0 xs := by
  obtain ⟨h1, h2 | ⟨g', cap', cur, h3, h4, h5, h6, h7, h8, h9⟩⟩ := h
  · cases h2.1
  · simp only [Value.slice.injEq, Option.some.injEq, Addr.mk.injEq] at h3
    obtain ⟨⟨rfl, -, -⟩, -, rfl⟩ := h3
    intro j u hu
    rw [Nat.zero_add, cell_of_row w g j cur e (0, 0) h5]
    rw [← h9, List.getElem?_take] at hu
    split at hu
    · simpa using hu
    · cases hu
theorem one_cell {w : World} {b : Nat} {x : Value} {t : TypeId} (h : w.heap[b]? = some (.cells #[x] t (0, 0))) : w.cell? ⟨b, 0, none⟩ = some x ∧ w.frozen? ⟨b, 0, none⟩ = false := by
  simp [World.cell?, World.frozen?, h]
theorem step_val {P : Program} {ops : Array Oper} {o : Oper} {a : Act} {w w' : World} {v : Value} {K : Act → World → Prop} {Q : Exit → Act → World → Prop} {E : Prop} (hg : o.guard = none) (hx : (execOp a.eval o).run P w = .ok (.value v) w') (hK : K (a.put o.dst v) w') : if Region.wanted o (yielded ops a.tmps) = true then Oper.wp P o a w K Q else E := by
  have hw : Region.wanted o (yielded ops a.tmps) = true := by simp [Region.wanted, hg]
  rw [if_pos hw]
  unfold Oper.wp
  rw [hx]
  exact hK
theorem exec_build2 {P : Program} {o : Oper} {ρ : Operand → Value} {t : TypeId} {i j : Nat} {x y : Operand} {a b v : Value} {w w' : World} (ho : o.op = .build t #[(i, x), (j, y)]) (hx : ρ x = a) (hy : ρ y = b) (hr : (Instr.build t #[(i, a), (j, b)]).run P w = .ok v w') : (execOp ρ o).run P w = .ok (.value v) w' := by
  simp only [execOp, ho, List.map_toArray, List.map_cons, List.map_nil, hx, hy]
  simp [hr]
theorem exec_slice1 {P : Program} {o : Oper} {ρ : Operand → Value} {t : TypeId} {n i : Nat} {x : Operand} {a v : Value} {w w' : World} (ho : o.op = .buildSlice t n #[(i, x)]) (hx : ρ x = a) (hr : (Instr.buildSlice t n #[(i, a)]).run P w = .ok v w') : (execOp ρ o).run P w = .ok (.value v) w' := by
  simp only [execOp, ho, List.map_toArray, List.map_cons, List.map_nil, hx]
  simp [hr]
/-- a slice of one fact -/
def FactAt (w : World) (v : Value) (k : Nat) (d : List Nat) : Prop := ∃ g c, v = .slice (some ⟨g, 0, none⟩) 1 c ∧ g < w.heap.size ∧ w.rangeAt g 0 (factC k d).toList
def DirSays (k : Nat) (d : List Nat) (w : World) (e : Ending) (w' : World) : Prop := ∃ v, e = .returned (.agg #[v]) ∧ FactAt w' v k d ∧ Below w.heap.size w w'
theorem FactAt.below {w w' : World} {v : Value} {k : Nat} {d : List Nat} (h : FactAt w v k d) (hb : Below w.heap.size w w') : FactAt w' v k d := by
  obtain ⟨g, c, h1, h2, h3⟩ := h
  exact ⟨g, c, h1, Nat.lt_of_lt_of_le h2 hb.size, fun j u hu => (hb.cell (p := ⟨g, 0 + j, none⟩) h2).trans (h3 j u hu)⟩
structure LetF (F NF E NE : Nat) : Prop where
  tyF : F = 68
  szF : NF = 22
  tyE : E = 133
  szE : NE = 23
theorem letF : ∃ F NF E NE : Nat, LetF F NF E NE := ⟨_, _, _, _, rfl, rfl, rfl, rfl⟩
theorem st_new {w : World} {cs z : Array Value} {t : TypeId} (h : cs.size = z.size) (h1 : cs.all (·.oneCell') = true) : Sem.run Tryz.prog (storeCells ⟨w.heap.size, 0, none⟩ cs.toList) (w.alloc (.cells z t)) = .ok () (w.alloc (.cells cs t)) := by
  have := cells_row (w := w.alloc (.cells z t)) (b := w.heap.size) (cs := cs) (heap_alloc_new w (.cells z t)) (by omega) h1
  rw [put_new h] at this
  exact this
set_option maxRecDepth 100000 in
set_option maxHeartbeats 4000000 in
theorem di_normal1 (k : Nat) (hk : k = 3 ∨ k = 4) (d : List Nat) (hd : d.length = 16) (hb : ∀ x ∈ d, x < 256) (pb pc fb fcap : Nat) (w : World) (hp : w.cell? ⟨pb, 0, none⟩ = some (.slice (some ⟨fb, 0, none⟩) 1 fcap)) (hr : w.rangeAt fb 0 (factC k d).toList) (hlt : fb < w.heap.size) :
    Calls Tryz.prog 35 #[.slice (some ⟨pb, 0, none⟩) 1 pc] w (DirSays k d w) := by
  obtain ⟨F, NF, E, NE, L⟩ := letF
  obtain ⟨S, hS⟩ : ∃ S, DirSays k d w = S := ⟨_, rfl⟩
  rw [hS]
  have HSS := Lib.hid hS
  have HK := Lib.hid (And.intro hk (And.intro hd hb))
  have hsz : (factC k d).size = 22 := factC_size hd
  have HLD := Lib.hid (show ∀ W' b, W'.rangeAt b 0 (factC k d).toList → Sem.run Tryz.prog (loadCellsFrom ⟨b, 0, none⟩ 0 NF #[]) W' = .ok (factC k d) W' from fun W' b h => by
    have := ld_mid (N := NF) (n := 22) L.szF h (by simpa using hsz)
    simpa using this)
  have HST := Lib.hid (show ∀ W : World, Sem.run Tryz.prog (storeCells ⟨W.heap.size, 0, none⟩ (factC k d).toList) (W.alloc (.cells #[.int .i64 0, .string ⟨#[]⟩, .int .i64 0, .int .i64 0, .int .i64 0, .slice none 0 0, .int .u8 0, .int .u8 0, .int .u8 0, .int .u8 0, .int .u8 0, .int .u8 0, .int .u8 0, .int .u8 0, .int .u8 0, .int .u8 0, .int .u8 0, .int .u8 0, .int .u8 0, .int .u8 0, .int .u8 0, .int .u8 0] 68)) = .ok () (W.alloc (.cells (factC k d) 68)) from fun W => st_new (by rw [hsz]; rfl) (factC_one k d))
  have HP := Lib.hid (And.intro hp (And.intro hr hlt))
  have laF : ∀ w, Sem.run Tryz.prog (isAgg F) w = .ok true w := fun w => by rw [L.tyF]; exact Tryz.isAgg68 w
  have lzF : ∀ w, Sem.run Tryz.prog (sizeOf F) w = .ok NF w := fun w => by rw [L.tyF, L.szF]; exact Tryz.sizeOf68 w
  have laE : ∀ w, Sem.run Tryz.prog (isAgg E) w = .ok true w := fun w => by rw [L.tyE]; exact Tryz.isAgg133 w
  have lzE : ∀ w, Sem.run Tryz.prog (sizeOf E) w = .ok NE w := fun w => by rw [L.tyE, L.szE]; exact Tryz.sizeOf133 w
  have o1 : ∀ x, Op.load 68 x = Op.load F x := fun x => by rw [L.tyF]
  have o2 : ∀ x y, Op.store 68 x y = Op.store F x y := fun x y => by rw [L.tyF]
  have o3 : ∀ x, Op.load 133 x = Op.load E x := fun x => by rw [L.tyE]
  have o4 : ∀ x y, Op.store 133 x y = Op.store E x y := fun x y => by rw [L.tyE]
  have o5 : ∀ ps, Op.build 133 ps = Op.build E ps := fun ps => by rw [L.tyE]
  have HLET := Lib.hid L
  have w1s : (w.alloc (.cells #[.slice none 0 0] 24)).heap.size = w.heap.size + 1 := by simp
  have hl1 := HLD.out (w.alloc (.cells #[.slice none 0 0] 24)) fb (fun j u hu => al_cell _ (hr j u hu))
  have hp1 := al_cell (.cells #[.slice none 0 0] 24) hp
  have hs1 := HST.out (w.alloc (.cells #[.slice none 0 0] 24))
  rw [w1s] at hs1
  obtain ⟨fc, hfc⟩ : ∃ fc, factC k d = fc := ⟨_, rfl⟩
  rw [hfc] at hl1 hs1
  have HFC := Lib.hid hfc
  have hfs : fc.size = NF := by rw [← hfc, hsz, L.szF]
  clear L w1s hk hd hb hp hr hlt hsz hS hfc
  go_enter Tryz.func35, Tryz.ntmps35
  simp only [o1, o2, o3, o4, o5]
  clear o1 o2 o3 o4 o5
  go_wp2_with fail
  refine wp_loop_rounds 2 ?_
  rw [rounds_succ]
  go_wp2_with fail
  refine wp_loop_rounds 2 ?_
  rw [rounds_succ]
  obtain ⟨W2, hW2⟩ : ∃ W2, (w.alloc (.cells #[.slice none 0 0] 24)).alloc (.cells fc 68) = W2 := ⟨_, rfl⟩
  have e2 := heap_alloc_new (w.alloc (.cells #[.slice none 0 0] 24)) (.cells fc 68)
  have b2 : Below w.heap.size w ((w.alloc (.cells #[.slice none 0 0] 24)).alloc (.cells fc 68)) := ((Below.refl _ _).alloc (Nat.le_refl _) _).alloc (by simp) _
  have r2 : ((w.alloc (.cells #[.slice none 0 0] 24)).alloc (.cells fc 68)).heap[w.heap.size]? = some (.cells #[.slice none 0 0] 24 (0, 0)) := (Below.heap_alloc _ _ _ (by simp)).trans (heap_alloc_new _ _)
  rw [World.size_alloc] at e2
  rw [hW2] at e2 b2 r2
  have hlt2 := lt_of_block e2
  have HLT2 := Lib.hid hlt2
  have HFS := Lib.hid (hfs.trans HLET.out.szF)
  have HTB := Lib.hid (show ∀ W', Un W2 W' → W'.heap[w.heap.size + 1]? = some (.cells (factC k d) 68 (0, 0)) from fun W' h => by rw [HFC.out]; exact (Below.block h _ hlt2).trans e2)
  have HRB := Lib.hid (show ∀ W', Un W2 W' → W'.heap[w.heap.size]? = some (.cells #[.slice none 0 0] 24 (0, 0)) from fun W' h => (Below.block h _ (by omega)).trans r2)
  have HLX := Lib.hid (show ∀ W', Un W2 W' → Sem.run Tryz.prog (loadCellsFrom ⟨w.heap.size + 1, 0, none⟩ 0 NF #[]) W' = .ok fc W' from fun W' h => by
    have := HLD.out W' (w.heap.size + 1) (range_block (HTB.out W' h))
    rwa [HFC.out] at this)
  have hl2 := HLX.out W2 (un_refl _)
  have HB2 := Lib.hid b2
  clear e2 b2 r2 hlt2
  have HVA := Lib.hid (di_valid k HK.out.1 d HK.out.2.1 W2)
  have HEN := Lib.hid (fun W' => di_encode k HK.out.1 d HK.out.2.1 HK.out.2.2 W')
  have hbe := fun (s : ByteArray) (w : World) => build_entry k HK.out.2.1 s w
  have hbs := fun (s : ByteArray) (w : World) => build_entries k HK.out.2.1 s w
  rw [HFC.out] at HVA HEN hbe hbs
  rw [← HLET.out.tyE] at hbe
  go_wp2_with fail
  refine HVA.out.mono ?_
  rintro e W3 ⟨rfl, hb3⟩
  have hu3 : Un W2 W3 := un_step (un_refl _) hb3
  have hl3 := HLX.out W3 hu3
  clear hl2 hb3
  obtain ⟨ze, hie, hzz⟩ := info_entry
  obtain ⟨i0, hi, hz0, hz1, hz2⟩ := info_parts hie
  have HI := Lib.hid (And.intro hi (And.intro hz0 (And.intro hz1 (And.intro hz2 hzz))))
  clear hie hi hz0 hz1 hz2 hzz
  go_upto_region 9 with fail
  have HU3 := Lib.hid hu3
  clear hu3
  -- BEGIN9
  refine wp_region_noPanic ?_
  refine wp_region_held_drew (S := (fun w' => Un W3 w' ∧ Sem.run Tryz.prog (loadCellsFrom ⟨w.heap.size + 1, 0, none⟩ 0 NF #[]) w' = .ok fc w')) (by kernel_rfl) ⟨un_drew _, HLX.out _ (un_step HU3.out (un_drew _))⟩ (fun hHeld => ?_)
  refine wpAnyH_take (i := 0) (oi := { dst := some 25, op := Op.move (Operand.tmp 3), type := 130, pos := "directory.go:63", after := #[], guard := none }) (v := ?_) rfl (by kernel_rfl) (by kernel_rfl) (by kernel_rfl) (fun _ _ _ h => h) (Or.inl ⟨by rfl, ?_⟩) (by assumption) ?_
  rotate_left
  · intro w hSw
    (try dsimp only at hSw)
    go_split_ands
    go_simp
    try with_reducible rfl
  try simp only [Act.put, List.setIfInBounds_toArray, List.set_cons_zero, List.set_cons_succ]
  refine wpAnyH_take (i := 1) (oi := { dst := some 26, op := Op.load F (Operand.tmp 7), type := 68, pos := "directory.go:63", after := #[], guard := none }) (v := ?_) rfl (by kernel_rfl) (by kernel_rfl) (by kernel_rfl) (fun _ _ _ h => h) (Or.inl ⟨by rfl, ?_⟩) (by assumption) ?_
  rotate_left
  · intro w hSw
    (try dsimp only at hSw)
    go_split_ands
    go_simp
    try with_reducible rfl
  try simp only [Act.put, List.setIfInBounds_toArray, List.set_cons_zero, List.set_cons_succ]
  refine wpAnyH_take (i := 2) (oi := { dst := some 27, op := Op.load F (Operand.tmp 7), type := 68, pos := "directory.go:63", after := #[], guard := none }) (v := ?_) rfl (by kernel_rfl) (by kernel_rfl) (by kernel_rfl) (fun _ _ _ h => h) (Or.inl ⟨by rfl, ?_⟩) (by assumption) ?_
  rotate_left
  · intro w hSw
    (try dsimp only at hSw)
    go_split_ands
    go_simp
    try with_reducible rfl
  try simp only [Act.put, List.setIfInBounds_toArray, List.set_cons_zero, List.set_cons_succ]
  refine wpAnyH_ready (rs := [3]) (by kernel_rfl) (by simp) ?_
  refine AllReadyH.cons (o := { dst := some 28, op := Op.call { callee := Callee.value (Operand.func 61), args := #[Operand.tmp 27], argTypes := #[68] }, type := 9, pos := "directory.go:63", after := #[{ on := 2, ground := Ground.data }], guard := none }) rfl (fun K hK => ?_) AllReadyH.nil
  go_simp
  refine (HEN.out _).mono ?_
  rintro e W4 ⟨s, rfl, hbE⟩
  go_wp2_with fail
  have hu4 : Un W3 W4 := un_step (un_drew _) hbE
  refine hK.out _ _ ⟨hu4, HLX.out _ (un_step HU3.out hu4)⟩ (fun hHeld => ?_)
  clear hK K hHeld hbE
  try simp only [Act.put, List.setIfInBounds_toArray, List.set_cons_zero, List.set_cons_succ]
  refine wpAnyH_ready (rs := [4]) (by kernel_rfl) (by simp) ?_
  refine AllReadyH.cons (o := { dst := some 29, op := Op.build E #[(0, Operand.tmp 26), (1, Operand.tmp 28)], type := 133, pos := "directory.go:63", after := #[{ on := 1, ground := Ground.data }, { on := 3, ground := Ground.data }], guard := none }) rfl (fun K hK => ?_) AllReadyH.nil
  refine step_val rfl (exec_build2 rfl rfl rfl (hbe s W4)) ?_
  refine hK.out _ _ ⟨hu4, HLX.out _ (un_step HU3.out hu4)⟩ (fun hHeld => ?_)
  clear hK K hHeld
  try simp only [Act.put, List.setIfInBounds_toArray, List.set_cons_zero, List.set_cons_succ]
  refine wpAnyH_ready (rs := [5]) (by kernel_rfl) (by simp) ?_
  refine AllReadyH.cons (o := { dst := some 30, op := Op.buildSlice 130 1 #[(0, Operand.tmp 29)], type := 130, pos := "directory.go:63", after := #[{ on := 4, ground := Ground.data }], guard := none }) rfl (fun K hK => ?_) AllReadyH.nil
  refine step_val rfl (exec_slice1 rfl rfl (hbs s W4)) ?_
  have hu5 : Un W3 (W4.alloc (.cells (fc.push (.string s)) 133)) := un_alloc hu4 _
  refine hK.out _ _ ⟨hu5, HLX.out _ (un_step HU3.out hu5)⟩ (fun hHeld => ?_)
  clear hK K hHeld
  try simp only [Act.put, List.setIfInBounds_toArray, List.set_cons_zero, List.set_cons_succ]
  obtain ⟨hi, hz0, hz1, hz2, hzz⟩ := HI.out
  have hsz23 : (fc.push (.string s)).toList.length = 1 * 23 := by simp [HFS.out]
  have hone : ∀ u ∈ (fc.push (.string s)).toList, u.oneCell' = true := by
    have h := factC_one k d
    rw [HFC.out] at h
    intro u hu
    simp only [Array.toList_push, List.mem_append, List.mem_singleton] at hu
    rcases hu with hu | rfl
    · exact Array.all_eq_true_iff_forall_mem.1 h u (by simpa using hu)
    · rfl
  have hbase : w.heap.size + 2 ≤ (W4.alloc (.cells (fc.push (.string s)) 133)).heap.size := by
    have := hu5.size
    have := HU3.out.size
    have := HLT2.out
    omega
  refine wpAnyH_ready (rs := [6]) (by kernel_rfl) (by simp) ?_
  refine AllReadyH.cons (o := { dst := some 31, op := Op.call { callee := Callee.builtin Builtin.append, args := #[Operand.tmp 25, Operand.tmp 30], argTypes := #[130, 130] }, type := 130, pos := "directory.go:63", after := #[{ on := 0, ground := Ground.data }, { on := 5, ground := Ground.data }, { on := 3, ground := Ground.chain }], guard := none }) rfl (fun K hK => ?_) AllReadyH.nil
  refine step_append_lies _ rfl (.tmp 25) (.tmp 30) 130 rfl (w.heap.size + 2) 133 i0 _ 23 104 Tryz.underlying130 hi hz0 hz1 hz2 hzz (by decide) (.slice none 0 0) 0 [] rfl (World.ownsRow_nil _ _ _ _) ⟨W4.heap.size, 0, none⟩ 1 1 (fc.push (.string s)).toList rfl hsz23 (World.news_of_block (heap_alloc_new _ _)) hone (by decide) (by decide) (by decide) hbase (W4.heap.size + 1) (by simp) ?_
  intro g cap W6 hown hgr hat hlt6
  have hu6 : Un W3 W6 := un_step hu5 (by simpa using grown_none hgr)
  refine hK.out _ _ ⟨hu6, HLX.out _ (un_step HU3.out hu6)⟩ (fun hHeld => ?_)
  clear hK K hHeld
  try simp only [Act.put, List.setIfInBounds_toArray, List.set_cons_zero, List.set_cons_succ]
  refine wpAnyH_ready (rs := [7]) (by kernel_rfl) (by simp) ?_
  refine AllReadyH.cons (o := { dst := some 3, op := Op.assign (Operand.tmp 31), type := 130, pos := "directory.go:63", after := #[{ on := 6, ground := Ground.data }, { on := 6, ground := Ground.chain }, { on := 0, ground := Ground.phase }, { on := 1, ground := Ground.phase }, { on := 2, ground := Ground.phase }, { on := 3, ground := Ground.phase }, { on := 4, ground := Ground.phase }, { on := 5, ground := Ground.phase }, { on := 6, ground := Ground.phase }], guard := none }) rfl (fun K hK => ?_) AllReadyH.nil
  go_simp
  refine hK.out _ _ ⟨hu6, HLX.out _ (un_step HU3.out hu6)⟩ (fun hHeld => ?_)
  clear hK K hHeld
  try simp only [Act.put, List.setIfInBounds_toArray, List.set_cons_zero, List.set_cons_succ]
  refine wpAnyH_done (by kernel_rfl) ?_ _
  refine NoPanic.normal ?_
  have hR6 : W6.rangeAt g 0 (fc.push (.string s)).toList := own_range hown
  have HU6 := Lib.hid hu6
  have HR6 := Lib.hid hR6
  have HH6 := Lib.hid (And.intro hat hlt6)
  clear hu6 hR6 hat hlt6 hown hgr hu5 hu4 hbase hone hsz23 hi hz0 hz1 hz2 hzz
  go_wp2_with fail
  rw [rounds_succ]
  go_wp2_with fail
  rw [rounds_succ]
  have w7s : (W6.alloc (.cells #[.slice none 0 0] 24)).heap.size = W6.heap.size + 1 := by simp
  have hl7 : Sem.run Tryz.prog (loadCellsFrom ⟨g, 0, none⟩ 0 NE #[]) (W6.alloc (.cells #[.slice none 0 0] 24)) = .ok (fc.push (.string s)) (W6.alloc (.cells #[.slice none 0 0] 24)) := by
    have h0 : (W6.alloc (.cells #[.slice none 0 0] 24)).rangeAt g 0 (fc.push (.string s)).toList := fun j u hu => al_cell _ (HR6.out j u hu)
    have := ld_mid (N := NE) (n := 23) HLET.out.szE h0 (by simp [HFS.out])
    rwa [Array.toArray_toList] at this
  have hs7 := st_new (w := W6.alloc (.cells #[.slice none 0 0] 24)) (cs := fc.push (.string s)) (z := #[.int .i64 0, .string ⟨#[]⟩, .int .i64 0, .int .i64 0, .int .i64 0, .slice none 0 0, .int .u8 0, .int .u8 0, .int .u8 0, .int .u8 0, .int .u8 0, .int .u8 0, .int .u8 0, .int .u8 0, .int .u8 0, .int .u8 0, .int .u8 0, .int .u8 0, .int .u8 0, .int .u8 0, .int .u8 0, .int .u8 0, .string ⟨#[]⟩]) (t := 133) (by simp [HFS.out]) (by
    have h := factC_one k d
    rw [HFC.out] at h
    rw [Array.all_push, h]
    rfl)
  rw [w7s, Array.toList_push] at hs7
  have hl8 : Sem.run Tryz.prog (loadCellsFrom ⟨W6.heap.size + 1, 0, none⟩ 0 NF #[]) ((W6.alloc (.cells #[.slice none 0 0] 24)).alloc (.cells (fc.push (.string s)) 133)) = .ok fc ((W6.alloc (.cells #[.slice none 0 0] 24)).alloc (.cells (fc.push (.string s)) 133)) := by
    have h0 := range_block (heap_alloc_new (W6.alloc (.cells #[.slice none 0 0] 24)) (.cells (fc.push (.string s)) 133))
    rw [w7s] at h0
    have := HLD.out _ _ (fun j u hu => h0 j u (by
      rw [HFC.out] at hu
      rw [Array.toList_push, List.getElem?_append_left (List.getElem?_eq_some_iff.1 hu).1]
      exact hu))
    rwa [HFC.out] at this
  have hes : (fc.push (.string s)).size = NE := by simp [HFS.out, HLET.out.szE]
  go_wp2_with (first | ((go_at_call 62; (with_reducible refine (di_sort _ _ _).mono ?_); rintro e w' ⟨rfl, rfl⟩)) | ((go_at_call 64; (with_reducible refine (di_compact _ _ _).mono ?_); rintro e w' ⟨rfl, rfl⟩)))
  refine wp_loop_rounds 2 ?_
  rw [rounds_succ]
  go_upto_region 17 with fail
  refine wp_region_list ?_
  obtain ⟨W8, hW8⟩ : ∃ X, ((w'.alloc (.cells #[.slice none 0 0] 24)).alloc (.cells (fc.push (.string s)) 133)) = X := ⟨_, rfl⟩
  have hd8 : W8.heap[w'.heap.size]? = some (.cells #[.slice none 0 0] 24 (0, 0)) := by
    rw [← hW8]
    exact (Below.heap_alloc _ _ _ (by simp)).trans (heap_alloc_new _ _)
  have hu8 : Un w' W8 := by
    rw [← hW8]
    exact un_alloc (un_alloc (un_refl _) _) _
  have hz8 : W8.heap.size = w'.heap.size + 2 := by rw [← hW8]; simp
  rw [hW8] at hl8 ⊢
  clear hs7 hl7 hW8
  obtain ⟨hc8, hf8⟩ := one_cell hd8
  refine wpList_step (fun K hK => ?_)
  go_simp
  refine hK _ _ ?_
  clear hK K
  try simp only [Act.put, List.setIfInBounds_toArray, List.set_cons_zero, List.set_cons_succ]
  refine wpList_step (fun K hK => ?_)
  go_simp
  refine hK _ _ ?_
  clear hK K
  try simp only [Act.put, List.setIfInBounds_toArray, List.set_cons_zero, List.set_cons_succ]
  refine wpList_step (fun K hK => ?_)
  go_simp
  refine hK _ _ ?_
  clear hK K
  try simp only [Act.put, List.setIfInBounds_toArray, List.set_cons_zero, List.set_cons_succ]
  refine wpList_step (fun K hK => ?_)
  go_simp
  refine hK _ _ ?_
  clear hK K
  try simp only [Act.put, List.setIfInBounds_toArray, List.set_cons_zero, List.set_cons_succ]
  refine wpList_step (fun K hK => ?_)
  have hbf := build_facts k HK.out.2.1 W8
  rw [HFC.out] at hbf
  refine step_val rfl (exec_slice1 rfl rfl hbf) ?_
  refine hK _ _ ?_
  clear hK K hbf
  try simp only [Act.put, List.setIfInBounds_toArray, List.set_cons_zero, List.set_cons_succ]
  refine wpList_step (fun K hK => ?_)
  obtain ⟨zf, hif, hzf⟩ := info_fact
  obtain ⟨i1, hi1, hy0, hy1, hy2⟩ := info_parts hif
  have hone1 : ∀ u ∈ fc.toList, u.oneCell' = true := by
    have h := factC_one k d
    rw [HFC.out] at h
    intro u hu
    exact Array.all_eq_true_iff_forall_mem.1 h u (by simpa using hu)
  refine step_append_lies _ rfl (.tmp 44) (.tmp 47) 22 rfl (w'.heap.size + 2) 68 i1 _ 22 88 Tryz.underlying22 hi1 hy0 hy1 hy2 hzf (by decide) (.slice none 0 0) 0 [] rfl (World.ownsRow_nil _ _ _ _) ⟨W8.heap.size, 0, none⟩ 1 1 fc.toList rfl (by simp [HFS.out]) (World.news_of_block (heap_alloc_new _ _)) hone1 (by decide) (by decide) (by decide) (by simp; omega) (W8.heap.size + 1) (by simp) ?_
  intro g2 cap2 W10 hown2 hgr2 hat2 hlt10
  simp only [Nat.zero_add, List.nil_append] at hown2 ⊢
  have hge : g2 = W8.heap.size + 1 := by
    rcases hat2 with h | h
    · cases h
    · exact h
  have HGE := Lib.hid hge
  clear hge
  have hb10 := grown_none hgr2
  have hd10 : W10.heap[w'.heap.size]? = some (.cells #[.slice none 0 0] 24 (0, 0)) := (hb10.block _ (by simp; omega)).trans ((Below.heap_alloc _ _ _ (by omega)).trans hd8)
  have hu10 : Un w' W10 := un_step (un_alloc hu8 _) hb10
  have hR10 := own_range hown2
  obtain ⟨hc10, hf10⟩ := one_cell hd10
  clear hc8 hf8 hd8
  refine hK _ _ ?_
  clear hK K
  try simp only [Act.put, List.setIfInBounds_toArray, List.set_cons_zero, List.set_cons_succ]
  refine wpList_step (fun K hK => ?_)
  go_simp
  refine hK _ _ ?_
  clear hK K
  try simp only [Act.put, List.setIfInBounds_toArray, List.set_cons_zero, List.set_cons_succ]
  refine wpList_step (fun K hK => ?_)
  go_simp
  refine hK _ _ ?_
  clear hK K
  try simp only [Act.put, List.setIfInBounds_toArray, List.set_cons_zero, List.set_cons_succ]
  refine wpList_nil ?_
  obtain ⟨W11, hW11⟩ : ∃ X, W10.setCell ⟨w'.heap.size, 0, none⟩ (.slice (some ⟨g2, 0, none⟩) 1 cap2) = X := ⟨_, rfl⟩
  rw [hW11]
  have hd11 : W11.heap[w'.heap.size]? = some (.cells #[.slice (some ⟨g2, 0, none⟩) 1 cap2] 24 (0, 0)) := by
    rw [← hW11]
    simp only [World.setCell, Array.getElem?_modify, hd10]
    simp
  have hu11 : Un w' W11 := by
    rw [← hW11]
    exact Below.setCell hu10 (Nat.le_refl _) _
  have hR11 : W11.rangeAt g2 0 fc.toList := by
    intro j u hu
    rw [← hW11]
    exact (World.cell?_of_block (by
      rw [set_other _ _ _ _ _ (show g2 ≠ w'.heap.size by have := HGE.out; omega)])).trans (hR10 j u hu)
  have hs11 : W11.heap.size = W10.heap.size := by rw [← hW11]; simp [World.setCell]
  have hU2 : Un W2 W11 := un_step (un_step HU3.out HU6.out) hu11
  have hr11 := HRB.out W11 hU2
  have HR11 := Lib.hid hr11
  obtain ⟨hc11, hf11⟩ := one_cell hd11
  obtain ⟨hcr, hfr⟩ := one_cell hr11
  have hbase : Below w.heap.size w W11 := (HB2.out).trans (hU2.mono HB2.out.size)
  have HF := Lib.hid (And.intro hR11 (And.intro hbase (And.intro hs11 (And.intro hlt10 (And.intro HGE.out hz8)))))
  clear hc10 hf10 hd10 hW11 hown2 hgr2 hR10 hR11 hb10 hu10 hu11 hU2 hr11 hd11 hbase hs11 hlt10 hz8 hat2 hi1 hy0 hy1 hy2 hzf hone1 hif hl8 hes hu8 w7s hl3
  go_wp2_with fail
  rw [rounds_succ]
  go_wp2_with fail
  obtain ⟨h1, h2, h3, h4, h5, h6⟩ := HF.out
  refine bodyPost_ret (v := .agg #[.slice (some ⟨g2, 0, none⟩) 1 cap2]) (results_row Tryz.underlying24 rfl (n := 1) (by kernel_rfl) Tryz.results35 (r := w.heap.size) rfl (heap_set HR11.out 0 _) rfl) rfl ?_
  rw [← HSS.out]
  have hsz2 := HU3.out.size
  have hsz6 := HU6.out.size
  have hl2 := HLT2.out
  refine ⟨_, rfl, ⟨g2, cap2, rfl, ?_, ?_⟩, ?_⟩
  · simp [World.setCell]; omega
  · intro j u hu
    rw [HFC.out] at hu
    have hge := h5
    exact (World.cell?_of_block (by
      have hs3 : w.heap.size + 2 ≤ W3.heap.size := by omega
      rw [set_other _ _ _ _ _ (show g2 ≠ w.heap.size by omega)])).trans (h1 j u hu)
  · exact Below.setCell h2 (Nat.le_refl _) _
end Go.Proofs.YtdeccekeknlnoaaGreatDoor
