/- Device: words for the walk of Do: what stands behind the run of an access, and at the end. -/
import Derived.Test.YtncgechmloekbaaDvJ
namespace Go.Proofs.Ytncgechmloekbaa
open Go.RowKit

theorem cells_row {w : World} {b : Nat} {cs cs0 : Array Value} {T0 : TypeId} (h : w.heap[b]? = some (.cells cs0 T0 (0, 0))) (h0 : cs.size ≤ cs0.size) (h1 : cs.all (·.oneCell') = true) : (storeCells ⟨b, 0, none⟩ cs.toList).run Try.prog w = .ok () (putRow w b cs) := by
  have ht := there_block (n := cs.size) h h0
  exact run_storeCells_cells (P := Try.prog) b 0 cs.toList 0 w (fun j hj => by simpa using (ht j (by simpa using hj)).1) (fun j hj => by simpa using (ht j (by simpa using hj)).2) (fun v hv => (Array.all_eq_true_iff_forall_mem.1 h1) v (by simpa using hv))

theorem five (w : World) (o1 o2 o3 o4 o5 : Obj) : ∀ W, W = ((((w.alloc o1).alloc o2).alloc o3).alloc o4).alloc o5 →
    W.heap[w.heap.size]? = some o1 ∧ W.heap[w.heap.size + 1]? = some o2 ∧ W.heap[w.heap.size + 1 + 1]? = some o3 ∧ W.heap[w.heap.size + 1 + 1 + 1]? = some o4 ∧ W.heap[w.heap.size + 1 + 1 + 1 + 1]? = some o5 ∧ W.heap.size = w.heap.size + 1 + 1 + 1 + 1 + 1 ∧ Below w.heap.size w W := by
  rintro W rfl
  refine ⟨?_, ?_, ?_, ?_, ?_, by simp, ?_⟩
  · exact (Below.heap_alloc _ _ _ (by simp only [World.size_alloc]; omega)).trans ((Below.heap_alloc _ _ _ (by simp only [World.size_alloc]; omega)).trans ((Below.heap_alloc _ _ _ (by simp only [World.size_alloc]; omega)).trans ((Below.heap_alloc _ _ _ (by simp only [World.size_alloc]; omega)).trans (heap_alloc_new _ _))))
  · exact (Below.heap_alloc _ _ _ (by simp only [World.size_alloc]; omega)).trans ((Below.heap_alloc _ _ _ (by simp only [World.size_alloc]; omega)).trans ((Below.heap_alloc _ _ _ (by simp only [World.size_alloc]; omega)).trans (by have := heap_alloc_new (w.alloc o1) o2; simpa using this)))
  · exact (Below.heap_alloc _ _ _ (by simp only [World.size_alloc]; omega)).trans ((Below.heap_alloc _ _ _ (by simp only [World.size_alloc]; omega)).trans (by have := heap_alloc_new ((w.alloc o1).alloc o2) o3; simpa using this))
  · exact (Below.heap_alloc _ _ _ (by simp only [World.size_alloc]; omega)).trans (by have := heap_alloc_new (((w.alloc o1).alloc o2).alloc o3) o4; simpa using this)
  · have := heap_alloc_new ((((w.alloc o1).alloc o2).alloc o3).alloc o4) o5; simpa using this
  · exact (((((Below.refl _ _).alloc (Nat.le_refl _) _).alloc (by simp) _).alloc (by simp; omega) _).alloc (by simp; omega) _).alloc (by simp; omega) _

theorem Und.drewN {W3 W : World} (h : Und W3 W) (n : Nat) : Und W3 (W.drewN n) := ⟨h.keeps.trans ⟨rfl, rfl, rfl, Nat.le_refl _, fun _ _ => rfl⟩⟩
theorem wpList_load_hw {ops : Array Oper} {rest : List Oper} {op : Oper} {a : Act} {w : World} {Q : Exit → Act → World → Prop} {b : Nat} {cs : Array Value} (hgd : op.guard = none) (x : Operand) (ho : op.op = .load 31 x)
    (hx : a.eval x = .pointer (some ⟨b, 0, none⟩)) (h : w.heap[b]? = some (.cells cs 31 (0, 0))) (hs : cs.size = 18)
    (hk : wpList Try.prog ops Q rest (a.put op.dst (.agg cs)) w) : wpList Try.prog ops Q (op :: rest) a w :=
  wpList_load_mid (P := Try.prog) hgd 31 x ho b 0 hx cs.toList _ (range_block h) Try.underlying31 rfl (by rw [show cs.toList.length = 18 by simpa using hs]; kernel_rfl) (by simpa using hk)
theorem loadVar_res {w : World} {b : Nat} {x y : Value} (h : w.heap[b]? = some (.cells #[x, y] 40 (0, 0))) : (loadVar 40 ⟨b, 0, none⟩).run Try.prog w = .ok (.agg #[x, y]) w :=
  run_loadVar_mid (P := Try.prog) w b 0 40 [x, y] _ (range_block h) Try.underlying40 rfl (by kernel_rfl)

/-- the two results, written -/
theorem ends_at {W : World} {b6 b7 : Nat} {cs0 cs : Array Value} {x y V B : Value} {T6 T7 : TypeId} (h6 : W.heap[b6]? = some (.cells cs0 T6 (0, 0))) (hs : cs.size = cs0.size) (h7 : W.heap[b7]? = some (.cells #[x, y] T7 (0, 0))) (hne : b6 ≠ b7) :
    (((putRow W b6 cs).setCell ⟨b7, 0, none⟩ V).setCell ⟨b7, 1, none⟩ B).heap[b6]? = some (.cells cs T6 (0, 0)) ∧ (((putRow W b6 cs).setCell ⟨b7, 0, none⟩ V).setCell ⟨b7, 1, none⟩ B).heap[b7]? = some (.cells #[V, B] T7 (0, 0)) :=
  ⟨(heap_setCell_other _ ⟨b7, 1, none⟩ b6 B hne).trans ((heap_setCell_other _ ⟨b7, 0, none⟩ b6 V hne).trans (put_same h6 hs)),
   heap_setCell_same _ b7 1 _ T7 B (heap_setCell_same _ b7 0 _ T7 V ((put_other (w := W) (b := b6) (cs := cs) (k := b7) (fun e => hne e.symm)).trans h7))⟩

section
variable {w W : World} {ok : Nat → Prop} {cs : Array Value} {f : List (List Nat)} {m : List ByteArray} {k b c : Int} {s : ByteArray} {cut noise : Bool} {nb : Int}
theorem hw_in (hok : ∀ x, ok x → x < w.heap.size) (hrow : ∃ v, cs[0]? = some v ∧ RRowsK w ok v f) (hstr : ∃ u, cs[1]? = some u ∧ StrsK w ok u m) (hb : Below w.heap.size w W) {p : Nat} (hp : w.heap.size ≤ p) {T : TypeId} (hl : W.heap[p]? = some (.cells cs T (0, 0))) :
    HwAt W ok p cs T f m := by
  obtain ⟨v, hv, hk⟩ := hrow
  obtain ⟨u, hu, hm⟩ := hstr
  exact ⟨fun x hx => ⟨Nat.lt_of_lt_of_le (hok x hx) hb.size, by have := hok x hx; omega⟩, hl, ⟨v, hv, hk.keep (fun x hx => hb.block x (hok x hx)) (fun _ h => h)⟩, ⟨u, hu, hm.keep (fun x hx => hb.block x (hok x hx)) (fun _ h => h)⟩⟩
theorem HwAt.und {p : Nat} {T : TypeId} {W' : World} (h : HwAt W ok p cs T f m) (hU : Und W W') : HwAt W' ok p cs T f m := by
  have hb := hU.keeps
  obtain ⟨v, hv, hk⟩ := h.rows
  obtain ⟨u, hu, hm⟩ := h.strs
  exact ⟨fun x hx => ⟨Nat.lt_of_lt_of_le (h.bar x hx).1 hb.size, (h.bar x hx).2⟩, (hb.block p h.lt).trans h.lies, ⟨v, hv, hk.below hb⟩, ⟨u, hu, hm.below hb⟩⟩
theorem says_back (hok : ∀ x, ok x → x < w.heap.size) (hrow : ∃ v, cs[0]? = some v ∧ RRowsK w ok v f) (hstr : ∃ u, cs[1]? = some u ∧ StrsK w ok u m) (hb : Below w.heap.size w W) (hd : doneB f m k b c s = false) {E : Int} (hE : E = doE f m k b c s) :
    DoSays w ok cs f m k b c s cut nb noise (.returned (.tuple #[.agg cs, .agg #[.int .i64 0, .string ⟨#[]⟩], .int .i64 E])) W := by
  obtain ⟨v, hv, hk⟩ := hrow
  obtain ⟨u, hu, hm⟩ := hstr
  refine ⟨v, u, ?_, ?_, ?_, hb⟩
  · rw [set_same hv, set_same hu, hE]
    simp [doV, doB, hd]
  · rw [doF, hd]
    exact hk.keep (fun x hx => hb.block x (hok x hx)) (fun _ h => .inl h)
  · rw [doM, hd]
    exact hm.keep (fun x hx => hb.block x (hok x hx)) (fun _ h => .inl h)
end

/-- behind the run of an access: the variable of its result, and what became of the copy -/
def RanAt (W5 : World) (p : Nat) (ok : Nat → Prop) (cs : Array Value) (V : Int) (B : ByteArray) (E : Int) (F : List (List Nat)) (M : List ByteArray) (x y : Value) (W : World) : Prop :=
  ∃ r v' u', x = .pointer (some ⟨r, 0, none⟩) ∧ y = .int .i64 E ∧ W.heap[r]? = some (.cells #[.int .i64 V, .string B] 40 (0, 0)) ∧ W5.heap.size ≤ r ∧
    W.heap[p]? = some (.cells ((cs.setIfInBounds 0 v').setIfInBounds 1 u') 31 (0, 0)) ∧ RRowsK W (fun x => (ok x ∨ W5.heap.size ≤ x) ∧ x ≠ r) v' F ∧ StrsK W (fun x => (ok x ∨ W5.heap.size ≤ x) ∧ x ≠ r) u' M ∧ W5.grownBy W (some p)
section
variable {W5 W0 W7 W' : World} {p : Nat} {ok : Nat → Prop} {cs : Array Value} {V : Int} {B : ByteArray} {E : Int} {F : List (List Nat)} {M : List ByteArray} {v' u' : Value}
theorem gr_trans (hU : Und W5 W') (hg : W'.grownBy W7 (some p)) : W5.grownBy W7 (some p) :=
  ⟨hg.os.trans hU.keeps.os, hg.tape.trans hU.keeps.tape, hg.output.trans hU.keeps.output, Nat.le_trans hU.keeps.size hg.size, fun k hk hne => (hg.block k (Nat.lt_of_lt_of_le hk hU.keeps.size) hne).trans (hU.keeps.block k hk)⟩
theorem gr_alloc (hg : W5.grownBy W7 (some p)) (o : Obj) : W5.grownBy (W7.alloc o) (some p) :=
  ⟨hg.os, hg.tape, hg.output, by have := hg.size; simp; omega, fun k hk hne => (Below.heap_alloc _ _ _ (Nat.lt_of_lt_of_le hk hg.size)).trans (hg.block k hk hne)⟩
theorem gr_und (hU : Und W5 W') : W5.grownBy W' (some p) := grown_of_below hU.keeps
theorem gcell {b o : Nat} {v : Value} (hg : W5.grownBy W7 (some p)) (c : W5.cell? ⟨b, o, none⟩ = some v) (hb : b ≠ p) : W7.cell? ⟨b, o, none⟩ = some v := hg.cell c (by simpa using hb)
theorem gold (hg : W'.grownBy W7 (some p)) : (∀ b o, b < W'.heap.size → b ≠ p → W7.cell? ⟨b, o, none⟩ = W'.cell? ⟨b, o, none⟩) ∧ (∀ b o, b < W'.heap.size → b ≠ p → W7.frozen? ⟨b, o, none⟩ = W'.frozen? ⟨b, o, none⟩) :=
  ⟨fun b o hb hne => World.cell?_of_block (a := ⟨b, o, none⟩) (hg.block b hb (by simpa using hne)), fun b o hb hne => World.frozen?_of_block (a := ⟨b, o, none⟩) (hg.block b hb (by simpa using hne))⟩
theorem ran_new (hp : p < W5.heap.size) (hz : W5.heap.size ≤ W0.heap.size) (hG : W5.grownBy W7 (some p)) (hk : RRowsK W7 (fun x => ok x ∨ W0.heap.size ≤ x) v' F) (hm : StrsK W7 (fun x => ok x ∨ W0.heap.size ≤ x) u' M)
    (hpp : W7.heap[p]? = some (.cells ((cs.setIfInBounds 0 v').setIfInBounds 1 u') 31 (0, 0))) :
    RanAt W5 p ok cs V B E F M (.pointer (some ⟨W7.heap.size, 0, none⟩)) (.int .i64 E) (W7.alloc (.cells #[.int .i64 V, .string B] 40)) := by
  have hz7 := hG.size
  have far : ∀ x, x < W7.heap.size → (W7.alloc (.cells #[.int .i64 V, .string B] 40)).heap[x]? = W7.heap[x]? := fun x hx => Below.heap_alloc _ _ _ hx
  refine ⟨W7.heap.size, v', u', rfl, rfl, ?_, hz7, (far p (by omega)).trans hpp, ?_, ?_, ?_⟩
  · exact heap_alloc_new _ _
  · exact hk.bnd.keep (fun x hx => far x hx.2) (fun x hx => ⟨hx.1.imp id (fun h => Nat.le_trans hz h), by have := hx.2; omega⟩)
  · exact hm.bnd.keep (fun x hx => far x hx.2) (fun x hx => ⟨hx.1.imp id (fun h => Nat.le_trans hz h), by have := hx.2; omega⟩)
  · exact ⟨hG.os, hG.tape, hG.output, by simp; omega, fun x hx hne => (far x (by omega)).trans (hG.block x hx hne)⟩
theorem ran_old {o : Obj} {x y : Value} (hp : p < W5.heap.size) (hok : ∀ x, ok x → x < W5.heap.size) (hz : W5.heap.size = W0.heap.size) (hG : W5.grownBy W7 (some p)) (hk : RRowsK W7 (fun x => ok x ∨ (W0.alloc o).heap.size ≤ x) v' F) (hm : StrsK W7 (fun x => ok x ∨ (W0.alloc o).heap.size ≤ x) u' M)
    (hpp : W7.heap[p]? = some (.cells ((cs.setIfInBounds 0 v').setIfInBounds 1 u') 31 (0, 0))) (hb : W7.heap[W0.heap.size]? = some (.cells #[x, y] 40 (0, 0))) :
    RanAt W5 p ok cs V B E F M (.pointer (some ⟨W0.heap.size, 0, none⟩)) (.int .i64 E) ((W7.setCell ⟨W0.heap.size, 0, none⟩ (.int .i64 V)).setCell ⟨W0.heap.size, 1, none⟩ (.string B)) := by
  have hz7 := hG.size
  have far : ∀ x, x ≠ W0.heap.size → ((W7.setCell ⟨W0.heap.size, 0, none⟩ (.int .i64 V)).setCell ⟨W0.heap.size, 1, none⟩ (.string B)).heap[x]? = W7.heap[x]? := fun x hx =>
    (heap_setCell_other _ ⟨W0.heap.size, 1, none⟩ x _ hx).trans (heap_setCell_other _ ⟨W0.heap.size, 0, none⟩ x _ hx)
  have hne : ∀ x, (ok x ∨ (W0.alloc o).heap.size ≤ x) → x ≠ W0.heap.size := by
    intro x hx
    rcases hx with hx | hx
    · have := hok x hx; omega
    · simp at hx; omega
  refine ⟨W0.heap.size, v', u', rfl, rfl, ?_, by omega, (far p (by omega)).trans hpp, ?_, ?_, ?_⟩
  · exact heap_setCell_same _ _ 1 _ _ _ (heap_setCell_same _ _ 0 _ _ _ hb)
  · exact hk.keep (fun x hx => far x (hne x hx)) (fun x hx => ⟨hx.imp id (fun h => by simp at h; omega), hne x hx⟩)
  · exact hm.keep (fun x hx => far x (hne x hx)) (fun x hx => ⟨hx.imp id (fun h => by simp at h; omega), hne x hx⟩)
  · exact ⟨hG.os, hG.tape, hG.output, by simpa using hz7, fun x hx hne => (far x (by omega)).trans (hG.block x hx hne)⟩
end
theorem below_gr {w W5 W6 : World} {n p : Nat} (h : Below n w W5) (hg : W5.grownBy W6 (some p)) (hn : n ≤ p) (hz : n ≤ W5.heap.size) : Below n w W6 :=
  ⟨hg.os.trans h.os, hg.tape.trans h.tape, hg.output.trans h.output, Nat.le_trans h.size hg.size, fun k hk => (hg.block k (by omega) (by simp; omega)).trans (h.block k hk)⟩
theorem yields_hw {ops : Array Oper} {S : World → Prop} {op : Oper} {a : Act} {b : Nat} {cs : Array Value} (hw : Region.wanted op (yielded ops a.tmps) = true) (x : Operand) (ho : op.op = .load 31 x)
    (hx : a.eval x = .pointer (some ⟨b, 0, none⟩)) (hS : ∀ w, S w → w.heap[b]? = some (.cells cs 31 (0, 0))) (hs : cs.size = 18) : YieldsIf Try.prog ops S op (.agg cs) a := by
  have := yieldsIf_load_mid (P := Try.prog) (ops := ops) (S := S) hw 31 x ho b 0 hx cs.toList _ (fun w h => range_block (hS w h)) Try.underlying31 rfl (by rw [show cs.toList.length = 18 by simpa using hs]; kernel_rfl)
  simpa using this
theorem yields_res {ops : Array Oper} {S : World → Prop} {op : Oper} {a : Act} {b : Nat} {u v : Value} (hw : Region.wanted op (yielded ops a.tmps) = true) (x : Operand) (ho : op.op = .load 40 x)
    (hx : a.eval x = .pointer (some ⟨b, 0, none⟩)) (hS : ∀ w, S w → w.heap[b]? = some (.cells #[u, v] 40 (0, 0))) : YieldsIf Try.prog ops S op (.agg #[u, v]) a :=
  yieldsIf_load_mid (P := Try.prog) (ops := ops) (S := S) hw 40 x ho b 0 hx [u, v] _ (fun w h => range_block (hS w h)) Try.underlying40 rfl (by kernel_rfl)
theorem take_at {P : Program} {ops : Array Oper} {Q : Exit → Act → World → Prop} {md : Region.Mode} {S : World → Prop} (i : Nat) {oi : Oper} {fuel : Nat} {listed : Array Bool} {a : Act} {w : World} (d : Nat) (v : Value) (hi : ops[i]? = some oi) (hd : oi.dst = some d)
    (hs : Region.noSelect ops = true) (hf : Region.free md ops listed i = true) (hr : (Region.ready md ops listed).contains i = true)
    (hQ : ∀ c a w, Q (.panic c) (a.put oi.dst v) w → Q (.panic c) a w) (hy : YieldsIf P ops S oi v a) (hS : S w)
    (h : wpAnyH P md ops Q S fuel (listed.setIfInBounds i true) ⟨a.tmps.setIfInBounds d v, a.defers⟩ w) : wpAnyH P md ops Q S (fuel + 1) listed a w :=
  wpAnyH_take hi hs hf hr hQ hy hS (by rw [hd]; exact h)
/-- one operation alone may come up: a store of a whole variable -/
theorem store_one {ops : Array Oper} {Q : Exit → Act → World → Prop} {md : Region.Mode} {S : World → Prop} (i : Nat) {o : Oper} {fuel : Nat} {listed : Array Bool} {a : Act} {w : World} {b : Nat} {cs cs0 : Array Value} (T : TypeId) {T0 : TypeId} (x y : Operand) (hi : ops[i]? = some o)
    (hr : Region.ready md ops listed = [i]) (hd : o.dst = none) (ho : o.op = .store T x y) (hw : Region.wanted o (yielded ops a.tmps) = true) (hx : a.eval x = .pointer (some ⟨b, 0, none⟩)) (hy : a.eval y = .agg cs) (h : w.heap[b]? = some (.cells cs0 T0 (0, 0))) (h0 : cs.size ≤ cs0.size) (hz : (Try.prog.info? T).map (·.size) = some cs.size) (h1 : cs.all (·.oneCell') = true)
    (hS : S (putRow w b cs)) (hk : S (putRow w b cs) → wpAnyH Try.prog md ops Q S fuel (listed.setIfInBounds i true) a (putRow w b cs)) : wpAnyH Try.prog md ops Q S (fuel + 1) listed a w := by
  refine wpAnyH_ready (rs := [i]) hr (by simp) (AllReadyH.cons hi (fun K hK => ?_) AllReadyH.nil)
  rw [if_pos hw]
  refine wp_store_mid T x y ho b 0 cs hx hy (there_block h h0) hz h1 ?_
  rw [hd]
  exact hK.out _ _ hS hk
theorem assign_one {P : Program} {ops : Array Oper} {Q : Exit → Act → World → Prop} {md : Region.Mode} {S : World → Prop} (i : Nat) {o : Oper} {fuel : Nat} {listed : Array Bool} {a : Act} {w : World} (d : Nat) (v : Value) (hi : ops[i]? = some o)
    (hr : Region.ready md ops listed = [i]) (hd : o.dst = some d) (ho : o.op = .assign (.const v)) (hw : Region.wanted o (yielded ops a.tmps) = true)
    (hS : S w) (hk : wpAnyH P md ops Q S fuel (listed.setIfInBounds i true) ⟨a.tmps.setIfInBounds d v, a.defers⟩ w) : wpAnyH P md ops Q S (fuel + 1) listed a w := by
  refine wpAnyH_ready (rs := [i]) hr (by simp) (AllReadyH.cons hi (fun K hK => ?_) AllReadyH.nil)
  rw [if_pos hw]
  unfold Oper.wp execOp
  simp only [ho, Sem.run_pure, Oper.upon, Act.eval]
  rw [hd]
  exact hK.out _ _ hS (fun _ => hk)
theorem size_set2 {cs : Array Value} {v u : Value} (h : cs.size = 18) : ((cs.setIfInBounds 0 v).setIfInBounds 1 u).size = 18 := by simpa using h
theorem all_set {cs : Array Value} {v : Value} {i : Nat} (h : cs.all (·.oneCell') = true) (hv : v.oneCell' = true) : (cs.setIfInBounds i v).all (·.oneCell') = true := by
  rw [Array.all_eq_true_iff_forall_mem] at h ⊢
  intro x hx
  rcases Array.mem_or_eq_of_mem_setIfInBounds hx with h1 | h1
  · exact h x h1
  · rw [h1]; exact hv
theorem RRowsK.one {w : World} {ok : Nat → Prop} {v : Value} {f : List (List Nat)} (h : RRowsK w ok v f) : v.oneCell' = true := by
  obtain ⟨A, c, rfl⟩ := h.form_
  rfl
theorem StrsK.one {w : World} {ok : Nat → Prop} {v : Value} {f : List ByteArray} (h : StrsK w ok v f) : v.oneCell' = true := by
  obtain ⟨A, c, rfl⟩ := h.form_
  rfl

end Go.Proofs.Ytncgechmloekbaa
