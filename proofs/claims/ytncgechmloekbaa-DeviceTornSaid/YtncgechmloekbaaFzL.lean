/- Fuses: New of both packages: the loops that append. -/
import Derived.Test.YtncgechmloekbaaFzK
namespace Go.Proofs.Ytncgechmloekbaa
open Go.RowKit

theorem infoBytes : (Try.prog.info? 56).map (fun i => (i.zero, i.size, i.bytes)) = some (some (.slice none 0 0), 1, 24) := by kernel_rfl
theorem infoU8 : (Try.prog.info? 5).map (fun i => (i.zero, i.size, i.bytes)) = some (some (.int .u8 0), 1, 1) := by kernel_rfl

/-- a fresh row of n zero bytes -/
def zrow (n : Nat) : Array Value := madeCells #[.int .u8 0] n
theorem zrow_at {n i : Nat} (h : i < n) : (zrow n)[i]? = some (.int .u8 0) := by
  have : (zrow n).toList[i]? = some (.int .u8 0) := by unfold zrow; rw [toList_madeCells_one]; simp [h]
  simpa using this
theorem make_u8 (n : Nat) (hn : n ≤ 1000000) (x : Int) (hx : x = n) (W : World) :
    (Instr.makeSlice 56 (.int .i64 x) (.int .i64 x)).run Try.prog W = .ok (.slice (some ⟨W.heap.size, 0, none⟩) n n) (W.alloc (.cells (zrow n) 5)) := by
  subst hx
  obtain ⟨i0, hi0, hz0, hz1, hz2⟩ := info_parts infoU8
  have hr := run_make (P := Try.prog) W 56 5 i0 _ Try.underlying56 hi0 hz0 .i64 .i64 n n (by omega) (by omega) (by rw [hz2]; omega) (by omega)
  rw [hr, hz1]
  simp [zrow, Value.cells]

/-! The same with whatever bar on the blocks. -/
def CellsK (w : World) (ok : Nat → Prop) (A : Option Addr) (n : Nat) (f : Nat → Value) : Prop :=
  0 < n → ∃ b o, A = some ⟨b, o, none⟩ ∧ ok b ∧ ∀ i, i < n → w.cell? ⟨b, o + i, none⟩ = some (f i)
def RBytesK (w : World) (ok : Nat → Prop) (v : Value) (xs : List Nat) : Prop :=
  ∃ A c, v = .slice A xs.length c ∧ xs.length ≤ c ∧ c ≤ maxLen ∧ (∀ x ∈ xs, x < 256) ∧ CellsK w ok A xs.length (fun i => .int .u8 (nth xs i : Nat))
def RRowsK (w : World) (ok : Nat → Prop) (v : Value) (f : List (List Nat)) : Prop :=
  ∃ A c vs, v = .slice A f.length c ∧ f.length ≤ c ∧ c ≤ maxLen ∧ CellsK w ok A f.length vs ∧ ∀ i, i < f.length → RBytesK w ok (vs i) (nthRow f i)
section
variable {w w' : World} {ok ok' : Nat → Prop} {B : Nat} {A : Option Addr} {n : Nat} {fn : Nat → Value} {v : Value} {xs : List Nat} {f : List (List Nat)}
theorem CellsK.keep (h : CellsK w ok A n fn) (hk : ∀ b, ok b → w'.heap[b]? = w.heap[b]?) (hi : ∀ b, ok b → ok' b) : CellsK w' ok' A n fn := by
  intro hn
  obtain ⟨b, o, hA, hb, hc⟩ := h hn
  exact ⟨b, o, hA, hi b hb, fun i hi => (World.cell?_of_block (a := ⟨b, o + i, none⟩) (hk b hb)).trans (hc i hi)⟩
theorem RBytesK.keep (h : RBytesK w ok v xs) (hk : ∀ b, ok b → w'.heap[b]? = w.heap[b]?) (hi : ∀ b, ok b → ok' b) : RBytesK w' ok' v xs := by
  obtain ⟨A, c, h1, h2, h3, h4, h5⟩ := h
  exact ⟨A, c, h1, h2, h3, h4, h5.keep hk hi⟩
theorem RRowsK.keep (h : RRowsK w ok v f) (hk : ∀ b, ok b → w'.heap[b]? = w.heap[b]?) (hi : ∀ b, ok b → ok' b) : RRowsK w' ok' v f := by
  obtain ⟨A, c, vs, h1, h2, h3, h4, h5⟩ := h
  exact ⟨A, c, vs, h1, h2, h3, h4.keep hk hi, fun i hi' => (h5 i hi').keep hk hi⟩
theorem CellsK.plain (h : CellsK w ok A n fn) : Cells w w.heap.size A n fn := by
  intro hn
  obtain ⟨b, o, hA, hb, hc⟩ := h hn
  exact ⟨b, o, hA, World.block_lt_of_cell? w _ (hc 0 hn), hc⟩
theorem RBytesK.plain (h : RBytesK w ok v xs) : RBytes w w.heap.size v xs := by
  obtain ⟨A, c, h1, h2, h3, h4, h5⟩ := h
  exact ⟨A, c, h1, h2, h3, h4, h5.plain⟩
theorem RRowsK.plain (h : RRowsK w ok v f) : RRows w w.heap.size v f := by
  obtain ⟨A, c, vs, h1, h2, h3, h4, h5⟩ := h
  exact ⟨A, c, vs, h1, h2, h3, h4.plain, fun i hi => (h5 i hi).plain⟩
theorem RRows.barred (h : RRows w B v f) : RRowsK w (· < B) v f := h
end

theorem rowsK_of_own {W : World} {base : Nat} {e : TypeId} {v : Value} {k : Nat} {vals : List Value} {f : List (List Nat)} {ok : Nat → Prop} (hown : W.ownsRow base e 1 v k vals) (hlen : f.length = k)
    (hok : ∀ b, base ≤ b → ok b) (hb : ∀ i u, vals[i]? = some u → RBytesK W ok u (nthRow f i)) : RRowsK W ok v f := by
  have hl : vals.length = k := by simpa using hown.1
  have hrow : ∀ i, i < f.length → RBytesK W ok (vals.getD i .nilFunc) (nthRow f i) := by
    intro i hi
    have h1 : i < vals.length := by omega
    have := hb i vals[i] (List.getElem?_eq_getElem h1)
    simpa [List.getElem?_eq_getElem h1] using this
  have hcells : ∀ (g : Nat), v.ownBlock = some g → ∀ j u, vals[j]? = some u → W.cell? ((⟨g, 0, none⟩ : Addr).add j) = some u := fun g hg => hown.cells hg
  rcases hown.2 with ⟨rfl, hk⟩ | ⟨g, cap, cur, rfl, hg, hh, hn, hm, hs, ht⟩
  · have hf : f = [] := List.eq_nil_of_length_eq_zero (by omega)
    subst hf
    exact ⟨none, 0, fun _ => .nilFunc, rfl, by simp, by simp [maxLen], fun h => absurd h (by simp), fun i hi => absurd hi (by simp)⟩
  · subst hlen
    refine ⟨_, cap, fun i => vals.getD i .nilFunc, rfl, hn, hm, fun h0 => ⟨g, 0, rfl, hok g hg, fun i hi => ?_⟩, hrow⟩
    have h1 : i < vals.length := by omega
    have := hcells g rfl i vals[i] (List.getElem?_eq_getElem h1)
    have hadd : (⟨g, 0, none⟩ : Addr).add i = ⟨g, 0 + i, none⟩ := by unfold Addr.add; split <;> simp_all
    rw [hadd] at this
    simpa [List.getElem?_eq_getElem h1] using this

theorem rowsK_nil (W : World) (ok : Nat → Prop) : RRowsK W ok (.slice none 0 0) [] :=
  ⟨none, 0, fun _ => .nilFunc, rfl, by simp, by simp [maxLen], fun h => absurd h (by simp), fun i hi => absurd hi (by simp)⟩
/-- blocks made behind F -/
def Fresh (F : Nat) (vals : List Value) : Prop := ∀ (i : Nat) (u : Value), vals[i]? = some u → ∃ g n c, u = .slice (some ⟨g, 0, none⟩) n c ∧ F < g
theorem Fresh.nil (F : Nat) : Fresh F [] := fun _ _ h => by simp at h
theorem Fresh.add {F g n c : Nat} {vals : List Value} (h : Fresh F vals) (hg : F < g) : Fresh F (vals ++ [.slice (some ⟨g, 0, none⟩) n c]) := by
  intro i u hu
  rcases Nat.lt_or_ge i vals.length with hi | hi
  · rw [List.getElem?_append_left hi] at hu; exact h i u hu
  · rw [List.getElem?_append_right hi] at hu
    have hik : i - vals.length = 0 := by
      rcases Nat.lt_or_ge (i - vals.length) 1 with h | h
      · omega
      · rw [List.getElem?_eq_none (by simpa using h)] at hu; cases hu
    rw [hik] at hu
    simp at hu
    exact ⟨g, n, c, hu.symm, hg⟩

/-- a slice over a block of its own of zero bytes -/
def Bank0 (W : World) (u : Value) (n : Nat) : Prop := ∃ g, u = .slice (some ⟨g, 0, none⟩) n n ∧ W.heap[g]? = some (.cells (zrow n) 5 (0, 0))
theorem Bank0.grown {W W' : World} {u v : Value} {n m : Nat} {base : Nat} {xs : List Value} (h : Bank0 W u n) (hown : W.ownsRow base 56 1 v m xs) (hg : W.grownBy W' v.ownBlock) : Bank0 W' u n := by
  obtain ⟨g, hu, hb⟩ := h
  refine ⟨g, hu, (hg.block g (lt_of_block hb) ?_).trans hb⟩
  intro e
  rcases hown.2 with ⟨rfl, _⟩ | ⟨g', cap, cur, rfl, _, hh, _⟩
  · simp [Value.ownBlock] at e
  · have e' : g = g' := by simpa [Value.ownBlock] using e
    subst e'
    rw [hb] at hh
    simp at hh
theorem Bank0.alloc {W : World} {u : Value} {n : Nat} (h : Bank0 W u n) (o : Obj) : Bank0 (W.alloc o) u n := by
  obtain ⟨g, hu, hb⟩ := h
  exact ⟨g, hu, (Below.heap_alloc W o g (lt_of_block hb)).trans hb⟩
theorem Bank0.far {W : World} {u : Value} {n : Nat} (h : Bank0 W u n) {p : Addr} {cs : Array Value} {t : TypeId} {fr : Nat × Nat} (hp : W.heap[p.block]? = some (.cells cs t fr)) (ht : t ≠ 5) (x : Value) : Bank0 (W.setCell p x) u n := by
  obtain ⟨g, hu, hb⟩ := h
  refine ⟨g, hu, (Below.heap_setCell W p x g ?_).trans hb⟩
  rintro rfl
  rw [hb] at hp
  simp at hp
  exact ht hp.2.1.symm
theorem Bank0.reads {W : World} {u : Value} {n : Nat} (h : Bank0 W u n) (hn : n ≤ maxLen) : RBytes W W.heap.size u (List.replicate n 0) := by
  obtain ⟨g, rfl, hb⟩ := h
  refine ⟨_, _, by rw [List.length_replicate], by simp, hn, by simp, fun h0 => ⟨g, 0, rfl, lt_of_block hb, fun i hi => ?_⟩⟩
  have hi' : i < n := by simpa using hi
  rw [Nat.zero_add, cell_of_row W g i _ _ _ hb, zrow_at hi']
  simp [nth, hi']

theorem Bank0.readsK {W : World} {u : Value} {n : Nat} {ok : Nat → Prop} (h : Bank0 W u n) (hn : n ≤ maxLen) (hok : ∃ g m c, u = .slice (some ⟨g, 0, none⟩) m c ∧ ok g) : RBytesK W ok u (List.replicate n 0) := by
  obtain ⟨g, rfl, hb⟩ := h
  obtain ⟨g', m, c, e, hg⟩ := hok
  have hgg : g = g' := by injection e with e1; injection e1 with e2; injection e2
  subst hgg
  refine ⟨_, _, by rw [List.length_replicate], by simp, hn, by simp, fun h0 => ⟨g, 0, rfl, hg, fun i hi => ?_⟩⟩
  have hi' : i < n := by simpa using hi
  rw [Nat.zero_add, cell_of_row W g i _ _ _ hb, zrow_at hi']
  simp [nth, hi']

theorem heap_second (w : World) (o1 o2 : Obj) : ((w.alloc o1).alloc o2).drew.heap[w.heap.size + 1]? = some o2 := by
  have h := heap_alloc_new (w.alloc o1) o2
  rw [World.size_alloc] at h
  exact h

/-- The state of New's loop: the variable f at block F, its row, the banks made so far. -/
def NewRel (W1 : World) (F : Nat) (bits : List Int) (k : Nat) (wr : World) : Prop :=
  ∃ v vals, wr.heap[F]? = some (.cells #[v] 24 (0, 0)) ∧ wr.ownsRow (F + 1) 56 1 v k vals ∧ (∀ i u, vals[i]? = some u → Bank0 wr u (3 * (nthI bits i).toNat)) ∧ Below F W1 wr ∧ Fresh F vals

theorem own_form {W : World} {base : Nat} {e : TypeId} {sz : Nat} {v : Value} {k : Nat} {xs : List Value} (h : W.ownsRow base e sz v k xs) : ∃ A n c, v = .slice A n c := by
  rcases h.2 with ⟨rfl, _⟩ | ⟨g, cap, cur, rfl, _⟩
  · exact ⟨_, _, _, rfl⟩
  · exact ⟨_, _, _, rfl⟩

/-- An owned row of slices reads as rows. -/
theorem rows_of_own {W : World} {base : Nat} {e : TypeId} {v : Value} {k : Nat} {vals : List Value} {f : List (List Nat)} (hown : W.ownsRow base e 1 v k vals) (hlen : f.length = k)
    (hb : ∀ i u, vals[i]? = some u → RBytes W W.heap.size u (nthRow f i)) : RRows W W.heap.size v f := by
  have hl : vals.length = k := by simpa using hown.1
  have hrow : ∀ i, i < f.length → RBytes W W.heap.size (vals.getD i .nilFunc) (nthRow f i) := by
    intro i hi
    have h1 : i < vals.length := by omega
    have := hb i vals[i] (List.getElem?_eq_getElem h1)
    simpa [List.getElem?_eq_getElem h1] using this
  have hcells : ∀ (g : Nat), v.ownBlock = some g → ∀ j u, vals[j]? = some u → W.cell? ((⟨g, 0, none⟩ : Addr).add j) = some u := fun g hg => hown.cells hg
  rcases hown.2 with ⟨rfl, hk⟩ | ⟨g, cap, cur, rfl, hg, hh, hn, hm, hs, ht⟩
  · have hf : f = [] := List.eq_nil_of_length_eq_zero (by omega)
    subst hf
    exact ⟨none, 0, fun _ => .nilFunc, rfl, by simp, by simp [maxLen], fun h => absurd h (by simp), fun i hi => absurd hi (by simp)⟩
  · subst hlen
    refine ⟨_, cap, fun i => vals.getD i .nilFunc, rfl, hn, hm, fun h0 => ⟨g, 0, rfl, lt_of_block hh, fun i hi => ?_⟩, hrow⟩
    have h1 : i < vals.length := by omega
    have := hcells g rfl i vals[i] (List.getElem?_eq_getElem h1)
    have hadd : (⟨g, 0, none⟩ : Addr).add i = ⟨g, 0 + i, none⟩ := by unfold Addr.add; split <;> simp_all
    rw [hadd] at this
    simpa [List.getElem?_eq_getElem h1] using this

theorem newRel_step {W1 wr w1 : World} {F k m gg cap : Nat} {bits : List Int} {u : Value} {vals : List Value} {o2 : Obj}
    (hF : wr.heap[F]? = some (.cells #[u] 24 (0, 0))) (hown : wr.ownsRow (F + 1) 56 1 u k vals) (hvals : ∀ i u, vals[i]? = some u → Bank0 wr u (3 * (nthI bits i).toNat)) (hbw : Below F W1 wr) (hfr : Fresh F vals) (hm : nthI bits k = m)
    (hown1 : w1.ownsRow (F + 1) 56 1 (.slice (some ⟨gg, 0, none⟩) (k + 1) cap) (k + 1) (vals ++ [.slice (some ⟨wr.heap.size, 0, none⟩) (3 * m) (3 * m)]))
    (hgrow : ((wr.alloc (.cells (zrow (3 * m)) 5)).alloc o2).drew.grownBy w1 u.ownBlock) :
    NewRel W1 F bits (k + 1) (w1.setCell ⟨F, 0, none⟩ (.slice (some ⟨gg, 0, none⟩) (k + 1) cap)) := by
  have hlt := lt_of_block hF
  have hl : vals.length = k := by simpa using hown.1
  have hne : some F ≠ u.ownBlock := by
    intro e
    have := (hown.lt _ e.symm).1
    omega
  have hF1 : w1.heap[F]? = some (.cells #[u] 24 (0, 0)) :=
    (hgrow.block F (by simp; omega) hne).trans (((Below.heap_alloc (wr.alloc _) o2 F (by simp; omega)).trans (Below.heap_alloc wr _ F hlt)).trans hF)
  have hgg := hown1.lt gg rfl
  refine ⟨_, _, one_setCell hF1, ownsRow_setCell_other (a := ⟨F, 0, none⟩) hown1 (by simp [Value.ownBlock]; omega) _, ?_, ?_, hfr.add hlt⟩
  · have hownA : ((wr.alloc (.cells (zrow (3 * m)) 5)).alloc o2).drew.ownsRow (F + 1) 56 1 u k vals := ((hown.alloc _).alloc _)
    intro i x hx
    refine Bank0.far ?_ (p := ⟨F, 0, none⟩) hF1 (by decide) _
    refine Bank0.grown ?_ hownA hgrow
    rcases Nat.lt_or_ge i k with hi | hi
    · rw [List.getElem?_append_left (by omega)] at hx
      exact ((hvals i x hx).alloc _).alloc _
    · rw [List.getElem?_append_right (by omega), hl] at hx
      have hik : i = k := by
        rcases Nat.lt_or_ge (i - k) 1 with h | h
        · omega
        · rw [List.getElem?_eq_none (by simpa using h)] at hx; cases hx
      subst hik
      simp at hx
      subst hx
      rw [hm]
      refine ⟨wr.heap.size, by simp, ?_⟩
      exact (Below.heap_alloc (wr.alloc _) o2 wr.heap.size (by simp)).trans (by simpa using heap_alloc_new wr (.cells (zrow (3 * m)) 5))
  · refine Below.setCell ?_ (by simp) _
    refine Below.grown (((hbw.alloc (by omega) _).alloc (by simp; omega) _).drew) hgrow (by simp; omega) ?_
    intro j hj
    have := (hown.lt j hj).1
    omega

theorem rows_nil (W : World) (B : Nat) : RRows W B (.slice none 0 0) [] :=
  ⟨none, 0, fun _ => .nilFunc, rfl, by simp, by simp [maxLen], fun h => absurd h (by simp), fun i hi => absurd hi (by simp)⟩
theorem new_no {bits : List Int} (h : Fz.newOK bits = false) : Fz.newE bits = 1 ∧ Fz.newF bits = [] := by simp [Fz.newE, Fz.newF, h]
theorem new_yes {bits : List Int} (h : Fz.newOK bits = true) : Fz.newE bits = 0 ∧ Fz.newF bits = bits.map Fz.zeros := by simp [Fz.newE, Fz.newF, h]
theorem ret_new {v : Value} {a b : Int} (h : a = b) : Ending.returned (.tuple #[.agg #[v], .int .i64 a]) = .returned (.tuple #[.agg #[v], .int .i64 b]) := by rw [h]

/-- What New's loop leaves, once the variable has been copied into the result. -/
theorem newRel_rows {W1 wr : World} {F : Nat} {bits : List Int} {u : Value} {vals : List Value} {p : Addr} (x : Value) (hp : p.block < F) (h2 : ∃ cs fr, W1.heap[p.block]? = some (.cells cs 24 fr))
    (hgood : ∀ j, j < bits.length → Fz.badW (nthI bits j) = false)
    (hown : wr.ownsRow (F + 1) 56 1 u bits.length vals) (hvals : ∀ i u, vals[i]? = some u → Bank0 wr u (3 * (nthI bits i).toNat)) (hbw : Below F W1 wr) (hfr : Fresh F vals) :
    RRowsK (wr.setCell p x) (fun b => F ≤ b) u (bits.map Fz.zeros) := by
  have hl : vals.length = bits.length := by simpa using hown.1
  refine rowsK_of_own (ownsRow_setCell_below hown (by omega) _) (by simp) (fun b hb => by omega) ?_
  intro i v hv
  have hi : i < bits.length := by
    rcases Nat.lt_or_ge i vals.length with h | h
    · omega
    · rw [List.getElem?_eq_none h] at hv; cases hv
  have hg := Fz.badW_false.1 (hgood i hi)
  obtain ⟨cs, fr, h2⟩ := h2
  have hb := (hvals i v hv).far (p := p) ((hbw.block _ hp).trans h2) (by decide) x
  have hr := hb.readsK (ok := fun b => F ≤ b) (by unfold maxLen; omega) (by obtain ⟨g, m, c, e, hg⟩ := hfr i v hv; exact ⟨g, m, c, e, Nat.le_of_lt hg⟩)
  have e : nthRow (bits.map Fz.zeros) i = List.replicate (3 * (nthI bits i).toNat) 0 := by
    simp [nthRow, nthI, hi, Fz.zeros]
  rw [e]
  exact hr

set_option maxRecDepth 100000 in
theorem rnewK_any (v : Value) (bits : List Int) (w : World) (hv : RInts w w.heap.size v bits) :
    Calls Try.prog 29 #[v] w fun e w' => ∃ v', e = .returned (.tuple #[.agg #[v'], .int .i64 (Fz.newE bits)]) ∧ RRowsK w' (fun b => w.heap.size ≤ b) v' (Fz.newF bits) ∧ Below w.heap.size w w' := by
  have hv' := hv
  obtain ⟨A, c, rfl, hn, hc, hcs⟩ := hv
  unfold maxLen at hc
  by_cases h4 : bits.length ≤ 4
  · have e4 : decide ((4 : Int) < (bits.length : Int)) = false := by simp; omega
    go_enter Try.func29, Try.ntmps29
    go_wp2
    obtain ⟨W1, hW1⟩ : ∃ W1, W1 = (w.alloc (Obj.cells #[Value.slice none 0 0] 24)).alloc (Obj.cells #[Value.slice none 0 0] 24) := ⟨_, rfl⟩
    have hB1 : Below w.heap.size w W1 := by rw [hW1]; exact ((Below.refl _ _).alloc (Nat.le_refl _) _).alloc (by simp) _
    have q0 : W1.heap.size = w.heap.size + 2 := by rw [hW1]; simp
    have q1 : W1.cell? ⟨w.heap.size, 0, none⟩ = some (Value.slice none 0 0) := by rw [hW1]; simp
    have q1' : W1.frozen? ⟨w.heap.size, 0, none⟩ = false := by rw [hW1]; simp
    have Q1 := Lib.hid (show ∃ cs fr, W1.heap[w.heap.size]? = some (.cells cs 24 fr) by rw [hW1]; exact ⟨_, _, (Below.heap_alloc _ _ _ (by simp)).trans (heap_alloc_new w _)⟩)
    have q2 : NewRel W1 (w.heap.size + 1) bits 0 W1 := ⟨.slice none 0 0, [], by rw [hW1]; simpa using heap_alloc_new (w.alloc _) _, World.ownsRow_nil _ _ _ _, by simp, Below.refl _ _, Fresh.nil _⟩
    rw [← hW1]
    clear hW1
    have Q0 := Lib.hid q0
    clear q0
    go_loopw [5] (fun i wr => ∃ k : Nat, k ≤ bits.length ∧ Hid (∀ j, j < k → Fz.badW (nthI bits j) = false) ∧ i = .int .i64 k ∧ Hid (NewRel W1 (w.heap.size + 1) bits k wr)) (fun i _ => bits.length - (intOf i).toNat)
    case atStart => exact ⟨0, Nat.zero_le _, fun j hj => absurd hj (by omega), rfl, q2⟩
    case round =>
      clear q2
      obtain ⟨k, hk, HJ, rfl, HR⟩ := hrel
      obtain ⟨u, vals, hF, hown, hvals, hbw, hfr⟩ := HR.out; have HFR := Lib.hid hfr; clear hfr
      obtain ⟨hk1, hk2⟩ := bcell hbw
      have HF := Lib.hid hF
      have HV := Lib.hid hvals
      have cF := cell_of_one hF
      have fF := free_of_one hF
      clear hF hvals
      by_cases hlt : k < bits.length
      · obtain ⟨b, o, rfl, hb, hg⟩ := hcs (by omega)
        have hx : W1.cell? ⟨b, o + k, none⟩ = some (.int .i64 (nthI bits k)) := (hB1.cell (p := ⟨b, o + k, none⟩) hb).trans (hg k hlt)
        have hb_ : b < w.heap.size + 1 := by omega
        clear hg
        cases hbad : Fz.badW (nthI bits k)
        · obtain ⟨hn0, hn16⟩ := Fz.badW_false.1 hbad
          have H := Lib.hid (Fz.below_succ HJ.out hbad)
          clear hbad
          obtain ⟨m, hm⟩ := Int.eq_ofNat_of_zero_le hn0
          have HM := Lib.hid hm
          rw [hm] at hx hn0 hn16
          clear hm
          have hmk := make_u8 (3 * m) (by omega) (3 * (m : Int)) (by omega)
          have hwr : IntKind.i64.wrap (3 * (m : Int)) = 3 * (m : Int) := by rw [IntKind.wrap_i64]; omega
          obtain ⟨i0, hi0, hz0, hz1, hz2⟩ := info_parts infoBytes
          have hz := hbw.size
          rw [Q0.out] at hz
          have hb3 : b < wr.heap.size := by omega
          have hb4 : b < wr.heap.size + 1 := by omega
          have hF1 : w.heap.size + 1 < wr.heap.size := by omega
          have hF2 : w.heap.size + 1 < wr.heap.size + 1 := by omega
          have hxr : wr.cell? ⟨b, o + k, none⟩ = some (.int .i64 (m : Int)) := by rw [hk1 _ _ hb_]; exact hx
          go_wp2
          have hne : u.ownBlock ≠ some (w.heap.size + 1) := by
            intro e
            have := (hown.lt _ e).1
            omega
          have hne2 : u.ownBlock ≠ some b := by
            intro e
            have := (hown.lt _ e).1
            omega
          go_region_law ((refine step_append_lies _ (by rfl) _ _ _ (by rfl) (w.heap.size + 1 + 1) 56 i0 _ 1 24 Try.underlying22 hi0 hz0 hz1 hz2 rfl (by omega) u k vals (by rfl) (by exact ((hown.alloc _).alloc _)) ⟨wr.heap.size + 1, 0, none⟩ 1 1 [.slice (some ⟨wr.heap.size, 0, none⟩) (3 * m) (3 * m)] (by rfl) (by rfl) (World.news_of_block (cs := #[.slice (some ⟨wr.heap.size, 0, none⟩) (3 * m) (3 * m)]) (t := 56) (fr := (0, 0)) (heap_second wr _ _)) (by simp [Value.oneCell']) (by omega) (by unfold maxLen; omega) (by omega) (by simp; omega) (wr.heap.size + 2) (by simp) ?_; intro gg cap w1 hown1 hgrow hat hlt2; have cF1 := (hgrow.cell_far ⟨w.heap.size + 1, 0, none⟩ (by simp; omega) (Ne.symm hne)).trans (show _ = some u by simp [*, go_sem, World.cell?_alloc_some]); have fF1 := (hgrow.frozen_far ⟨w.heap.size + 1, 0, none⟩ (by simp; omega) (Ne.symm hne)).trans (show _ = false by simp [*, go_sem])))
          all_goals
            have HS := Lib.hid (newRel_step (W1 := W1) HF.out hown HV.out hbw HFR.out HM.out hown1 hgrow)
            clear hown1 hgrow hat hlt2 hmk hwr hi0 hz0 hz1 hz2 cF1 fF1
            go_wp2
            go_roundw
            case rel => exact ⟨k + 1, by omega, H.out, by go_num, HS.out⟩
            case measure => simp [intOf]; omega
        · have HO := Lib.hid (new_no (show Fz.newOK bits = false by simp [Fz.newOK, Fz.anyBadW_hit hlt hbad]))
          have hn2 : nthI bits k < 0 ∨ (0 ≤ nthI bits k ∧ 16 < nthI bits k) := by simp [Fz.badW] at hbad; omega
          clear hbad
          have hF1 : w.heap.size < w.heap.size + 1 := by omega
          rcases hn2 with hn2 | ⟨hn2, hn3⟩
          all_goals
            go_wp2
            refine bodyPost_ret (v := .tuple #[.agg #[.slice none 0 0], .int .i64 1]) (by simp [results, Try.results29, go_sem, hk1, q1]) rfl ⟨_, ret_new HO.out.1.symm, ?_, ?_⟩
            · rw [HO.out.2]; exact rowsK_nil _ _
            · exact (hB1.trans (hbw.mono (by omega))).setCell (by simp) _
      · have HJ' : ∀ j, j < bits.length → Fz.badW (nthI bits j) = false := fun j hj => HJ.out j (by omega)
        obtain rfl : k = bits.length := by omega
        have HO := Lib.hid (new_yes (show Fz.newOK bits = true by simp [Fz.newOK, Fz.anyBadW_none HJ', h4]))
        have HJ2 := Lib.hid HJ'
        clear HJ'
        have hF1 : w.heap.size < w.heap.size + 1 := by omega
        obtain ⟨A', n', c', rfl⟩ := own_form hown
        go_wp2
        refine bodyPost_ret (v := .tuple #[.agg #[.slice A' n' c'], .int .i64 0]) (by simp [results, Try.results29, go_sem, hk1, q1]) rfl ⟨_, ret_new HO.out.1.symm, ?_, ?_⟩
        · rw [HO.out.2]
          exact (newRel_rows (W1 := W1) _ (by simp) Q1.out HJ2.out hown HV.out hbw HFR.out).keep (fun _ _ => rfl) (fun b hb => by have hb' : w.heap.size + 1 ≤ b := hb; omega)
        · exact (hB1.trans (hbw.mono (by omega))).setCell (by simp) _
  · have HO := Lib.hid (new_no (show Fz.newOK bits = false by simp [Fz.newOK]; omega))
    clear hcs hv'
    go_enter Try.func29, Try.ntmps29
    go_wp2
    refine bodyPost_ret (v := .tuple #[.agg #[.slice none 0 0], .int .i64 1]) (by simp [results, Try.results29, go_sem]) rfl ⟨_, ret_new HO.out.1.symm, ?_, ?_⟩
    · rw [HO.out.2]; exact rowsK_nil _ _
    · exact (((Below.refl _ _).alloc (Nat.le_refl _) _).alloc (by simp) _)

theorem rnew_any (v : Value) (bits : List Int) (w : World) (hv : RInts w w.heap.size v bits) :
    Calls Try.prog 29 #[v] w fun e w' => ∃ v', e = .returned (.tuple #[.agg #[v'], .int .i64 (Fz.newE bits)]) ∧ RRows w' w'.heap.size v' (Fz.newF bits) ∧ Below w.heap.size w w' :=
  (rnewK_any v bits w hv).mono fun _ _ ⟨v', h1, h2, h3⟩ => ⟨v', h1, h2.plain, h3⟩

end Go.Proofs.Ytncgechmloekbaa
