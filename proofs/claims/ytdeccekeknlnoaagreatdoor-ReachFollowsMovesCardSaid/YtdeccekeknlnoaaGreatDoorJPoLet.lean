/- Chapter 29: a row of cells that is written and read as one value; the node's type number as a letter. (The laws of rows: as in chapter 09.) | Chapter 29, the walk: compare of the parser. -/
import Derived.Test.YtdeccekeknlnoaaGreatDoorJPoPaA
import Derived.Deep.MidRow
namespace Go.Proofs.YtdeccekeknlnoaaGreatDoor
open Go.RowKit
def splice : Array Value → Nat → List Value → Array Value
  | cs, _, [] => cs
  | cs, o, v :: vs => splice (cs.setIfInBounds o v) (o + 1) vs
theorem splice_at : ∀ (vs : List Value) (cs : Array Value) (o i : Nat), i < cs.size → (splice cs o vs)[i]? = if o ≤ i ∧ i < o + vs.length then vs[i - o]? else cs[i]?
  | [], cs, o, i, _ => by simp [splice]; omega
  | v :: vs, cs, o, i, h => by
    rw [splice, splice_at vs _ (o + 1) i (by simpa using h), Array.getElem?_setIfInBounds]
    by_cases h1 : o = i
    · subst h1
      rw [if_neg (by omega), if_pos (by simp)]
      simp [h]
    · by_cases h2 : o + 1 ≤ i ∧ i < o + 1 + vs.length
      · rw [if_pos h2, if_pos (by simp; omega)]
        have : i - o = (i - (o + 1)) + 1 := by omega
        rw [this]; simp
      · rw [if_neg h2, if_neg h1, if_neg (by simp; omega)]
theorem splice_size : ∀ (vs : List Value) (cs : Array Value) (o : Nat), (splice cs o vs).size = cs.size
  | [], _, _ => rfl
  | v :: vs, cs, o => by rw [splice, splice_size vs]; simp
theorem splice_all {cs : Array Value} {vs : List Value} (h : vs.length = cs.size) : splice cs 0 vs = vs.toArray := by
  apply Array.ext_getElem?
  intro i
  by_cases hi : i < cs.size
  · rw [splice_at vs cs 0 i hi, if_pos (by omega)]; simp
  · rw [Array.getElem?_eq_none (by rw [splice_size]; omega), Array.getElem?_eq_none (by simp; omega)]
theorem heap_splice {b : Nat} {T : TypeId} : ∀ (vs : List Value) (o : Nat) (cs : Array Value) (w : World), w.heap[b]? = some (.cells cs T (0, 0)) → (w.setCells b o vs).heap[b]? = some (.cells (splice cs o vs) T (0, 0))
  | [], _, _, _, h => h
  | v :: vs, o, cs, w, h => heap_splice vs (o + 1) _ _ (heap_setCell_same w b o cs T v h)
theorem below_setCells {B b : Nat} {w0 : World} : ∀ {w : World} (_ : Below B w0 w) (_ : B ≤ b) (vs : List Value) (o : Nat), Below B w0 (w.setCells b o vs)
  | _, h, _, [], _ => h
  | _, h, hb, v :: vs, o => below_setCells (h.setCell (p := ⟨b, o, none⟩) hb v) hb vs (o + 1)
theorem heap_setCells (b : Nat) : ∀ (vs : List Value) (o : Nat) (w : World) (k : Nat), k ≠ b → (w.setCells b o vs).heap[k]? = w.heap[k]?
  | [], _, _, _, _ => rfl
  | v :: vs, o, w, k, h => (heap_setCells b vs (o + 1) _ k h).trans (heap_setCell_other w ⟨b, o, none⟩ k v h)
theorem range_block {w : World} {b : Nat} {cs : Array Value} {t : TypeId} (h : w.heap[b]? = some (.cells cs t (0, 0))) : w.rangeAt b 0 cs.toList := by
  intro j v hv
  rw [Nat.zero_add, cell_of_row w b j cs t _ h]
  simpa using hv
theorem there_block {W : World} {b n : Nat} {cs : Array Value} {t : TypeId} (h : W.heap[b]? = some (.cells cs t (0, 0))) (hn : n ≤ cs.size) : W.there b 0 n := by
  intro j hj
  constructor
  · simp only [World.cell?, h]
    have : j < cs.size := by omega
    simp [this]
  · simp [World.frozen?, h]
section
variable {w w0 : World} {b k B : Nat} {cs cs0 : Array Value} {T : TypeId}
def putRow (w : World) (b : Nat) (cs : Array Value) : World := w.setCells b 0 cs.toList
theorem put_same (h : w.heap[b]? = some (.cells cs0 T (0, 0))) (hs : cs.size = cs0.size) : (putRow w b cs).heap[b]? = some (.cells cs T (0, 0)) := by
  have := heap_splice cs.toList 0 cs0 w h
  rwa [splice_all (by simpa using hs)] at this
theorem put_other (hk : k ≠ b) : (putRow w b cs).heap[k]? = w.heap[k]? := heap_setCells b _ 0 w k hk
theorem put_below (h : Below B w0 w) (hb : B ≤ b) : Below B w0 (putRow w b cs) := below_setCells h hb _ _
end
theorem cells_row {w : World} {b : Nat} {cs cs0 : Array Value} {T0 : TypeId} (h : w.heap[b]? = some (.cells cs0 T0 (0, 0))) (h0 : cs.size ≤ cs0.size) (h1 : cs.all (·.oneCell') = true) : (storeCells ⟨b, 0, none⟩ cs.toList).run Tryz.prog w = .ok () (putRow w b cs) := by
  have ht := there_block (n := cs.size) h h0
  exact run_storeCells_cells (P := Tryz.prog) b 0 cs.toList 0 w (fun j hj => by simpa using (ht j (by simpa using hj)).1) (fun j hj => by simpa using (ht j (by simpa using hj)).2) (fun v hv => (Array.all_eq_true_iff_forall_mem.1 h1) v (by simpa using hv))
theorem setCells_new (t : TypeId) (w : World) : ∀ (vs : List Value) (o : Nat) (z : Array Value), (w.alloc (.cells z t)).setCells w.heap.size o vs = w.alloc (.cells (splice z o vs) t)
  | [], _, _ => rfl
  | v :: vs, o, z => by
    rw [World.setCells, World.setCell_alloc_new, setCells_new t w vs (o + 1), splice]
theorem put_new {w : World} {cs z : Array Value} {t : TypeId} (h : cs.size = z.size) : putRow (w.alloc (.cells z t)) w.heap.size cs = w.alloc (.cells cs t) := by
  rw [putRow, setCells_new, splice_all (by simpa using h)]
theorem setCells_past (o : Obj) (b : Nat) : ∀ (vs : List Value) (k : Nat) (w : World), b < w.heap.size → (w.alloc o).setCells b k vs = (w.setCells b k vs).alloc o
  | [], _, _, _ => rfl
  | v :: vs, k, w, h => by
    rw [World.setCells, World.setCells, World.setCell_alloc_past _ _ _ _ h, setCells_past o b vs (k + 1) _ (by simpa using h)]
theorem put_second {w : World} {cs z : Array Value} {t : TypeId} {o : Obj} (h : cs.size = z.size) : putRow ((w.alloc (.cells z t)).alloc o) w.heap.size cs = (w.alloc (.cells cs t)).alloc o := by
  rw [putRow, setCells_past _ _ _ _ _ (by simp), setCells_new, splice_all (by simpa using h)]
theorem put_past {w : World} {b : Nat} (h : b < w.heap.size) (cs : Array Value) (o : Obj) : putRow (w.alloc o) b cs = (putRow w b cs).alloc o := setCells_past _ _ _ _ _ h
theorem size_putRow (w : World) (b : Nat) (cs : Array Value) : (putRow w b cs).heap.size = w.heap.size := by
  have : ∀ (vs : List Value) (o : Nat) (w : World), (w.setCells b o vs).heap.size = w.heap.size := by
    intro vs
    induction vs with
    | nil => intro o w; rfl
    | cons v vs ih => intro o w; rw [World.setCells, ih]; simp
  exact this _ _ _

theorem loadVar_node {w : World} {b : Nat} {cs : Array Value} (h : w.heap[b]? = some (.cells cs 155 (0, 0))) (hs : cs.size = 21) : (loadVar 155 ⟨b, 0, none⟩).run Tryz.prog w = .ok (.agg cs) w := by
  have h1 := run_loadVar_mid (P := Tryz.prog) w b 0 155 cs.toList _ (range_block h) Tryz.underlying155 rfl (by rw [show cs.toList.length = 21 by simpa using hs]; kernel_rfl)
  simpa using h1
theorem loadVar_dig {w : World} {b : Nat} {cs : Array Value} (h : w.heap[b]? = some (.cells cs 39 (0, 0))) (hs : cs.size = 16) : (loadVar 39 ⟨b, 0, none⟩).run Tryz.prog w = .ok (.agg cs) w := by
  have h1 := run_loadVar_mid (P := Tryz.prog) w b 0 39 cs.toList _ (range_block h) Tryz.underlying39 rfl (by rw [show cs.toList.length = 16 by simpa using hs]; kernel_rfl)
  simpa using h1
/-- how a node is handed back -/
theorem results_node {fn : Func} {t : Tmp} (h : fn.results = #[.cell t 155]) {tmps : Array Value} {r : Nat} (ht : tmps[t]?.getD undef = .pointer (some ⟨r, 0, none⟩)) {w : World} {cs : Array Value} (hc : w.heap[r]? = some (.cells cs 155 (0, 0))) (hs : cs.size = 21) :
    (results fn tmps).run Tryz.prog w = .ok (.agg cs) w := by
  simp [results, h, ht, asAddr, loadVar_node hc hs]
theorem results_dig {fn : Func} {t : Tmp} (h : fn.results = #[.cell t 39]) {tmps : Array Value} {r : Nat} (ht : tmps[t]?.getD undef = .pointer (some ⟨r, 0, none⟩)) {w : World} {cs : Array Value} (hc : w.heap[r]? = some (.cells cs 39 (0, 0))) (hs : cs.size = 16) :
    (results fn tmps).run Tryz.prog w = .ok (.agg cs) w := by
  simp [results, h, ht, asAddr, loadVar_dig hc hs]
/-- letters: the type of a node and its size; the type of a digest and its size -/
structure Letters (T N R K : Nat) : Prop where
  ty : T = 155
  sz : N = 21
  tyR : R = 39
  szR : K = 16
theorem letters : ∃ T N R K : Nat, Letters T N R K := ⟨_, _, _, _, rfl, rfl, rfl, rfl⟩
section
variable {T N R K : Nat} (L : Letters T N R K)
include L
theorem Letters.load (x : Operand) : Op.load 155 x = Op.load T x := by rw [L.ty]
theorem Letters.store (x y : Operand) : Op.store 155 x y = Op.store T x y := by rw [L.ty]
theorem Letters.build (ps : Array (Nat × Operand)) : Op.build 155 ps = Op.build T ps := by rw [L.ty]
theorem Letters.loadR (x : Operand) : Op.load 39 x = Op.load R x := by rw [L.tyR]
theorem Letters.storeR (x y : Operand) : Op.store 39 x y = Op.store R x y := by rw [L.tyR]
theorem Letters.agg (w : World) : Sem.run Tryz.prog (isAgg T) w = .ok true w := by rw [L.ty]; exact Tryz.isAgg155 w
theorem Letters.size (w : World) : Sem.run Tryz.prog (sizeOf T) w = .ok N w := by rw [L.ty, L.sz]; exact Tryz.sizeOf155 w
theorem Letters.aggR (w : World) : Sem.run Tryz.prog (isAgg R) w = .ok true w := by rw [L.tyR]; exact Tryz.isAgg39 w
theorem Letters.sizeR (w : World) : Sem.run Tryz.prog (sizeOf R) w = .ok K w := by rw [L.tyR, L.szR]; exact Tryz.sizeOf39 w
theorem Letters.ld {w : World} {b : Nat} {cs : Array Value} {t : TypeId} (h : w.heap[b]? = some (.cells cs t (0, 0))) (hs : cs.size = 21) : Sem.run Tryz.prog (loadCellsFrom ⟨b, 0, none⟩ 0 N #[]) w = .ok cs w := by
  have hl := run_loadCells_list (P := Tryz.prog) w ⟨b, 0, none⟩ cs.toList (fun j v hv => by rw [Addr.add_mid]; exact range_block h j v hv)
  rw [L.sz, ← hs]
  show Sem.run _ (loadCells _ _) _ = _
  simpa only [Array.length_toList, Array.toArray_toList] using hl
end
theorem build2 (k n : Nat) (w : World) : (Instr.build 155 #[(0, .int .i64 k), (1, .int .i64 n)]).run Tryz.prog w = .ok (.agg (ndVals ⟨k, n, 0, 0, Po.zero16, []⟩ (.slice none 0 0)).toArray) w := by kernel_rfl
theorem build1 (w : World) : (Instr.build 155 #[(0, .int .i64 1)]).run Tryz.prog w = .ok (.agg (ndVals ⟨1, 0, 0, 0, Po.zero16, []⟩ (.slice none 0 0)).toArray) w := by kernel_rfl
theorem build4 (n m s : Nat) (w : World) : (Instr.build 155 #[(0, .int .i64 7), (1, .int .i64 n), (2, .int .i64 m), (3, .int .i64 s)]).run Tryz.prog w = .ok (.agg (ndVals ⟨7, n, m, s, Po.zero16, []⟩ (.slice none 0 0)).toArray) w := by kernel_rfl
theorem nd_size {x : Po.Nd} {v : Value} (h : x.dg.length = 16) : (ndVals x v).toArray.size = 21 := by simpa using ndVals_len h
theorem nd_one {x : Po.Nd} {v : Value} (hv : v.oneCell' = true) : (ndVals x v).toArray.all (·.oneCell') = true := by
  rw [Array.all_eq_true_iff_forall_mem]
  intro u hu
  simp only [ndVals, List.mem_toArray, List.mem_append, List.mem_cons, List.mem_nil_iff, or_false, List.mem_map] at hu
  rcases hu with ((h | h | h | h) | ⟨b, _, h⟩) | h
  · rw [h]; rfl
  · rw [h]; rfl
  · rw [h]; rfl
  · rw [h]; rfl
  · rw [← h]; rfl
  · rw [h]; exact hv
/-- the cells of a new node -/
def nd0 : Array Value := (ndVals ⟨0, 0, 0, 0, Po.zero16, []⟩ (.slice none 0 0)).toArray
end Go.Proofs.YtdeccekeknlnoaaGreatDoor

namespace Go.Proofs.YtdeccekeknlnoaaGreatDoor
open Go.RowKit
/-- what an eater of a node says -/
def NodeSays (p : Nat) (w : World) (r : Po.R Po.Nd) (e : Ending) (w' : World) : Prop := match r with
  | some x => e = .returned (.agg (ndVals x.1 (.slice none 0 0)).toArray) ∧ Eats p w x.2 w'
  | none => Fails e ∧ Fr p none w w'
theorem Fr.of_alloc {p : Nat} {w w2 : World} {ob : Obj} {own : Option Nat} (h2 : Fr p own (w.alloc ob) w2) : Fr p own w w2 := (Fr.of_below (Below.new ob)).trans h2 (.refl _ _)
/-- a variable of the caller's own stands behind what eats tokens -/
theorem Fr.var {p : Nat} {w w1 : World} {b : Nat} {ob : Obj} (h : Fr p none w w1) (hb : w.heap[b]? = some ob) (hp : b ≠ p) : w1.heap[b]? = some ob := (h.block b (lt_of_block hb) hp (by simp)).trans hb
theorem Eats.var {p : Nat} {w w1 : World} {l : List Po.Tok} {b : Nat} {ob : Obj} (h : Eats p w l w1) (hb : w.heap[b]? = some ob) (hp : b ≠ p) : w1.heap[b]? = some ob := h.fr.var hb hp
theorem Eats.put {p : Nat} {w w1 : World} {l : List Po.Tok} {b : Nat} {cs : Array Value} (h : Eats p w l w1) (hb : w.heap.size ≤ b) : Eats p w l (putRow w1 b cs) :=
  h.below (put_below (Below.refl _ _) hb)
theorem field_n (k n a : Int) (t : ByteArray) (w : World) : Sem.run Tryz.prog (Instr.field 202 (.agg #[.int .i64 k, .string t, .int .i64 n, .int .i64 a]) 2) w = .ok (.int .i64 n) w := by kernel_rfl
theorem field_t (k n a : Int) (t : ByteArray) (w : World) : Sem.run Tryz.prog (Instr.field 202 (.agg #[.int .i64 k, .string t, .int .i64 n, .int .i64 a]) 1) w = .ok (.string t) w := by kernel_rfl
theorem upon_value {P : Program} {o : Oper} {a : Act} {next : Act → World → Prop} {Q : Exit → Act → World → Prop} {r : Result Next} {v : Value} {w' : World} (hr : r = .ok (.value v) w') (h : next (a.put o.dst v) w') : Oper.upon P o a next Q r := by
  subst hr
  exact h
set_option maxRecDepth 1000000 in
set_option maxHeartbeats 1000000 in
theorem pa_compare {p : Nat} {l : List Po.Tok} {o : List Po.Nd} {own : Option Nat} (eq ge : Nat) (w : World) (h : PsAt p w l o own) :
    Calls Tryz.prog 217 #[.pointer (some ⟨p, 0, none⟩), .int .i64 eq, .int .i64 ge] w (NodeSays p w (Po.compare eq ge l)) := by
  have hp := h.lt
  obtain ⟨S, hS⟩ : ∃ S, NodeSays p w (Po.compare eq ge l) = S := ⟨_, rfl⟩
  rw [hS]
  obtain ⟨T, N, R, K, L⟩ := letters
  have h0 := h.keep (Below.new (.cells nd0 155))
  have hr : (w.alloc (.cells nd0 155)).heap[w.heap.size]? = some (.cells nd0 155 (0, 0)) := heap_alloc_new _ _
  have hw := Below.new (w := w) (.cells nd0 155)
  have hpr : w.heap.size ≠ p := by omega
  clear h
  have hfd := fun k n a t w => field_n k n a t w
  go_enter Tryz.func217, Tryz.ntmps217
  simp only [L.store, L.build]
  have la := L.agg
  have lz := L.size
  have HL := Lib.hid L
  clear L
  go_upto_region 2 with fail
  change Code.wp _ _ _ _ (w.alloc (.cells nd0 155))
  revert h0 hr hw
  generalize w.alloc (.cells nd0 155) = W0
  intro h0 hr hw
  have H0 := Lib.hid h0
  have HR := Lib.hid hr
  have HW := Lib.hid hw
  clear h0 hr hw
  cases hi : Po.isT l 3 [61, 61] with
  | true =>
    have HI := Lib.hid hi
    have hcmp := Lib.hid (show Po.compare eq ge l = (Po.must 2 [] l.tail).map fun x => (⟨eq, x.1.n, 0, 0, Po.zero16, []⟩, x.2) by rw [Po.compare, if_pos hi])
    clear hi
    go_upto_region 5 with (go_at_call 183; refine (pa_accept_yes 3 ⟨#[61, 61]⟩ _ H0.out HI.out).mono ?_; rintro e w1 ⟨rfl, he1⟩; have HE1 := Lib.hid he1; clear he1)
    cases hm : Po.must 2 [] l.tail with
    | none =>
      have HM := Lib.hid hm
      have HX := Lib.hid (show Po.compare eq ge l = none by rw [hcmp.out, hm]; rfl)
      clear hm
      go_wp2_with (go_at_call 185; refine (pa_must_no 2 ⟨#[]⟩ _ (HE1.out.at_ H0.out) HM.out).mono ?_; rintro e w2 ⟨hf, hfr⟩; unfold Fails at hf; subst hf)
      rw [← hS, HX.out]
      exact ⟨rfl, rfl, Fr.trans (Fr.of_below HW.out) (HE1.out.fr.trans hfr (.refl _ _)) (.refl _ _)⟩
    | some y =>
      obtain ⟨y, r⟩ := y
      have HM := Lib.hid hm
      have HX := Lib.hid (show Po.compare eq ge l = some (⟨eq, y.n, 0, 0, Po.zero16, []⟩, r) by rw [hcmp.out, hm]; rfl)
      clear hm
      go_wp2_with (go_at_call 185; refine (pa_must_ok 2 ⟨#[]⟩ _ (HE1.out.at_ H0.out) HM.out).mono ?_; rintro e w2 ⟨⟨a, rfl⟩, he2⟩; have HE := Lib.hid (HE1.out.trans he2); clear he2)
      have hT := HL.out.ty
      subst hT
      refine upon_value (v := .agg (ndVals ⟨eq, y.n, 0, 0, Po.zero16, []⟩ (.slice none 0 0)).toArray) (w' := w2) (by kernel_rfl) ?_
      rename_i K0 hK0
      refine hK0 _ _ ?_
      have HR2 := HE.out.var HR.out hpr
      refine wpList_store_mid rfl 155 (.tmp 6) (.tmp 19) rfl w.heap.size 0 (ndVals ⟨eq, y.n, 0, 0, Po.zero16, []⟩ (.slice none 0 0)).toArray rfl rfl (there_block HR2 (Nat.le_refl 21)) (by kernel_rfl) (nd_one rfl) ?_
      have hend := put_same (cs := (ndVals ⟨eq, y.n, 0, 0, Po.zero16, []⟩ (.slice none 0 0)).toArray) HR2 rfl
      have heat := (HE.out.before HW.out hp).put (b := w.heap.size) (cs := (ndVals ⟨eq, y.n, 0, 0, Po.zero16, []⟩ (.slice none 0 0)).toArray) (Nat.le_refl _)
      change wpList _ _ _ _ _ (putRow w2 w.heap.size (ndVals ⟨eq, y.n, 0, 0, Po.zero16, []⟩ (.slice none 0 0)).toArray)
      revert hend heat
      generalize putRow w2 w.heap.size (ndVals ⟨eq, y.n, 0, 0, Po.zero16, []⟩ (.slice none 0 0)).toArray = W3
      intro hend heat
      have HEND := Lib.hid hend
      have HEAT := Lib.hid heat
      clear hend heat HR2 hK0
      go_wp2_with fail
      refine bodyPost_ret (v := .agg (ndVals ⟨eq, y.n, 0, 0, Po.zero16, []⟩ (.slice none 0 0)).toArray) (results_node Tryz.results217 rfl HEND.out rfl) rfl ?_
      rw [← hS, HX.out]
      exact ⟨rfl, HEAT.out⟩

  | false =>
    have HI := Lib.hid hi
    have hcmp := Lib.hid (show Po.compare eq ge l = (Po.must 3 [62, 61] l).bind fun y => (Po.must 2 [] y.2).map fun x => (⟨ge, x.1.n, 0, 0, Po.zero16, []⟩, x.2) by rw [Po.compare, if_neg (by rw [hi]; simp)])
    clear hi
    go_upto_region 3 with (go_at_call 183; refine (pa_accept_no 3 ⟨#[61, 61]⟩ _ H0.out HI.out).mono ?_; rintro e w1 ⟨rfl, he1⟩; have HE1 := Lib.hid he1; clear he1)
    cases hm : Po.must 3 [62, 61] l with
    | none =>
      have HM := Lib.hid hm
      have HX := Lib.hid (show Po.compare eq ge l = none by rw [hcmp.out, hm]; rfl)
      clear hm
      go_wp2_with (go_at_call 185; refine (pa_must_no 3 ⟨#[62, 61]⟩ _ (HE1.out.at_ H0.out) HM.out).mono ?_; rintro e w2 ⟨hf, hfr⟩; unfold Fails at hf; subst hf)
      rw [← hS, HX.out]
      exact ⟨rfl, rfl, Fr.trans (Fr.of_below HW.out) (HE1.out.fr.trans hfr (.refl _ _)) (.refl _ _)⟩
    | some x =>
      obtain ⟨x, r0⟩ := x
      have HM0 := Lib.hid hm
      have hcmp2 := Lib.hid (show Po.compare eq ge l = (Po.must 2 [] r0).map fun x => (⟨ge, x.1.n, 0, 0, Po.zero16, []⟩, x.2) by rw [hcmp.out, hm]; rfl)
      clear hm
      go_upto_region 5 with (go_at_call 185; refine (pa_must_ok 3 ⟨#[62, 61]⟩ _ (HE1.out.at_ H0.out) HM0.out).mono ?_; rintro e w2 ⟨⟨a0, rfl⟩, he2⟩; have HE2 := Lib.hid (HE1.out.trans he2); clear he2)
      cases hm : Po.must 2 [] r0 with
      | none =>
        have HM := Lib.hid hm
        have HX := Lib.hid (show Po.compare eq ge l = none by rw [hcmp2.out, hm]; rfl)
        clear hm
        go_wp2_with (go_at_call 185; refine (pa_must_no 2 ⟨#[]⟩ _ (HE2.out.at_ H0.out) HM.out).mono ?_; rintro e w2 ⟨hf, hfr⟩; unfold Fails at hf; subst hf)
        rw [← hS, HX.out]
        exact ⟨rfl, rfl, Fr.trans (Fr.of_below HW.out) (HE2.out.fr.trans hfr (.refl _ _)) (.refl _ _)⟩
      | some y =>
        obtain ⟨y, r⟩ := y
        have HM := Lib.hid hm
        have HX := Lib.hid (show Po.compare eq ge l = some (⟨ge, y.n, 0, 0, Po.zero16, []⟩, r) by rw [hcmp2.out, hm]; rfl)
        clear hm
        go_wp2_with (go_at_call 185; refine (pa_must_ok 2 ⟨#[]⟩ _ (HE2.out.at_ H0.out) HM.out).mono ?_; rintro e w2 ⟨⟨a, rfl⟩, he2⟩; have HE := Lib.hid (HE2.out.trans he2); clear he2)
        have hT := HL.out.ty
        subst hT
        refine upon_value (v := .agg (ndVals ⟨ge, y.n, 0, 0, Po.zero16, []⟩ (.slice none 0 0)).toArray) (w' := w2) (by kernel_rfl) ?_
        rename_i K0 hK0
        refine hK0 _ _ ?_
        have HR2 := HE.out.var HR.out hpr
        refine wpList_store_mid rfl 155 (.tmp 6) (.tmp 19) rfl w.heap.size 0 (ndVals ⟨ge, y.n, 0, 0, Po.zero16, []⟩ (.slice none 0 0)).toArray rfl rfl (there_block HR2 (Nat.le_refl 21)) (by kernel_rfl) (nd_one rfl) ?_
        have hend := put_same (cs := (ndVals ⟨ge, y.n, 0, 0, Po.zero16, []⟩ (.slice none 0 0)).toArray) HR2 rfl
        have heat := (HE.out.before HW.out hp).put (b := w.heap.size) (cs := (ndVals ⟨ge, y.n, 0, 0, Po.zero16, []⟩ (.slice none 0 0)).toArray) (Nat.le_refl _)
        change wpList _ _ _ _ _ (putRow w2 w.heap.size (ndVals ⟨ge, y.n, 0, 0, Po.zero16, []⟩ (.slice none 0 0)).toArray)
        revert hend heat
        generalize putRow w2 w.heap.size (ndVals ⟨ge, y.n, 0, 0, Po.zero16, []⟩ (.slice none 0 0)).toArray = W3
        intro hend heat
        have HEND := Lib.hid hend
        have HEAT := Lib.hid heat
        clear hend heat HR2 hK0
        go_wp2_with fail
        refine bodyPost_ret (v := .agg (ndVals ⟨ge, y.n, 0, 0, Po.zero16, []⟩ (.slice none 0 0)).toArray) (results_node Tryz.results217 rfl HEND.out rfl) rfl ?_
        rw [← hS, HX.out]
        exact ⟨rfl, HEAT.out⟩

end Go.Proofs.YtdeccekeknlnoaaGreatDoor
