/- Fuses: Pulse of the reference. -/
import Derived.Test.YtncgechmloekbaaFzO
namespace Go.Proofs.Ytncgechmloekbaa
open Go.RowKit

theorem cell_alloc {w : World} {a : Addr} {v : Value} (h : w.cell? a = some v) (o : Obj) : (w.alloc o).cell? a = some v :=
  (World.cell?_alloc_lt w o a (World.block_lt_of_cell? w a h)).trans h
theorem free_alloc {w : World} {a : Addr} (hlt : a.block < w.heap.size) (h : w.frozen? a = false) (o : Obj) : (w.alloc o).frozen? a = false :=
  (World.frozen?_of_block (w := w) (Below.heap_alloc w o a.block hlt)).trans h

section
variable {P : Program} (w : World)
theorem run_append_nilsrc (base : Nat) (t ty e : TypeId) (i : TypeInfo) (size : Nat) (ht : P.underlying t = some (.slice e)) (hi : P.info? e = some i) {v : Value} {n : Nat} {xs : List Value} (hown : w.ownsRow base e size v n xs) (c : Nat) :
    (Builtin.append_ #[t, t] ty #[v, .slice none 0 c]).run P w = .ok v w := by
  rcases hown.2 with ⟨rfl, rfl⟩ | ⟨g, cap, cur, rfl, _, _, hn, _⟩ <;>
    simp [Builtin.append_, run_underlying ht, sizeOf, typeInfo, Builtin.lenOf, Builtin.firstCells, storeCells, *]

/-- append onto an owned row, from whatever slice of one-cell elements, nil let in. -/
theorem run_append_cells (base : Nat) (t ty e : TypeId) (i : TypeInfo) (z : Value) (bytes : Nat) (ht : P.underlying t = some (.slice e)) (hi : P.info? e = some i) (hz : i.zero = some z)
    (hsize : i.size = 1) (hby : i.bytes = bytes) (hzs : z.cells.size = 1) {v : Value} {n : Nat} {xs : List Value} (hown : w.ownsRow base e 1 v n xs)
    {B : Nat} {A : Option Addr} {m c : Nat} {f : Nat → Value} (hcs : Cells w B A m f) (h1 : ∀ k, k < m → (f k).oneCell' = true)
    (h63 : n + m ≤ maxLen) (hbytes : (n + m) * bytes ≤ 140737488355328) (hbase : base ≤ w.heap.size) :
    ∃ v' w', (Builtin.append_ #[t, t] ty #[v, .slice A m c]).run P w = .ok v' w' ∧ w'.ownsRow base e 1 v' (n + m) (xs ++ (List.range m).map f) ∧ w.grownBy w' v.ownBlock ∧
      (v'.ownBlock = v.ownBlock ∨ v'.ownBlock = some w.heap.size) := by
  cases A with
  | none =>
    have h0 : m = 0 := by
      rcases Nat.eq_zero_or_pos m with h | h
      · exact h
      · obtain ⟨b, o, hA, _⟩ := hcs h; cases hA
    subst h0
    exact ⟨v, w, run_append_nilsrc w base t ty e i 1 ht hi hown c, by simpa using hown, ⟨rfl, rfl, rfl, Nat.le_refl _, fun _ _ _ => rfl⟩, .inl rfl⟩
  | some ad =>
    obtain ⟨v', w', hr, h2, h3, _, h5⟩ := run_append_own_at (P := P) w base t ty e i z 1 bytes ht hi hz hsize hby hzs (by decide) v n xs hown ad m c ((List.range m).map f) (by simp) (news_of_cells hcs) (by simpa using h1) h63 hbytes hbase
    exact ⟨v', w', hr, h2, h3, h5⟩

theorem step_append_cells {ops : Array Oper} {o : Oper} {a : Act} {K : Act → World → Prop} {Q : Exit → Act → World → Prop} {E : Prop} (hgd : o.guard = none) (s x : Operand) (t : TypeId)
    (ho : o.op = .call { callee := .builtin .append, args := #[s, x], argTypes := #[t, t] })
    (base : Nat) (e : TypeId) (i : TypeInfo) (z : Value) (bytes : Nat) (ht : P.underlying t = some (.slice e)) (hi : P.info? e = some i) (hz : i.zero = some z)
    (hsize : i.size = 1) (hby : i.bytes = bytes) (hzs : z.cells.size = 1) (v : Value) (n : Nat) (xs : List Value) (hs : a.eval s = v) (hown : w.ownsRow base e 1 v n xs)
    (B : Nat) (A : Option Addr) (m c : Nat) (f : Nat → Value) (hx : a.eval x = .slice A m c) (hcs : Cells w B A m f) (h1 : ∀ k, k < m → (f k).oneCell' = true)
    (h63 : n + m ≤ maxLen) (hbytes : (n + m) * bytes ≤ 140737488355328) (hbase : base ≤ w.heap.size)
    (h : ∀ v' w', w'.ownsRow base e 1 v' (n + m) (xs ++ (List.range m).map f) → w.grownBy w' v.ownBlock → (v'.ownBlock = v.ownBlock ∨ v'.ownBlock = some w.heap.size) → K (a.put o.dst v') w') :
    if Region.wanted o (yielded ops a.tmps) = true then Oper.wp P o a w K Q else E := by
  have hw : Region.wanted o (yielded ops a.tmps) = true := by simp [Region.wanted, hgd]
  rw [if_pos hw]
  obtain ⟨v', w', hr, h2, h3, h4⟩ := run_append_cells (P := P) w base t o.type e i z bytes ht hi hz hsize hby hzs hown (c := c) hcs h1 h63 hbytes hbase
  unfold Oper.wp execOp
  simp only [ho, resolve, invoke, builtin, Sem.run_bind, Sem.run_pure, Result.andThen_ok, List.map_toArray, List.map_cons, List.map_nil, hs, hx, hr]
  exact h v' w' h2 h3 h4
end

/-- The state of Pulse's loop: the variable out at block O, its row, the copies made so far, each in a block of its own. -/
def CopyRel (W1 : World) (O : Nat) (f : List (List Nat)) (k : Nat) (wr : World) : Prop :=
  ∃ v vals, wr.heap[O]? = some (.cells #[v] 24 (0, 0)) ∧ wr.ownsRow (O + 1) 56 1 v k vals ∧
    (∀ t u, vals[t]? = some u → wr.ownsRow (O + 1) 5 1 u (nthRow f t).length (u8s (nthRow f t))) ∧
    (∀ (t t' : Nat) (u u' : Value) (g : Nat), t ≠ t' → vals[t]? = some u → vals[t']? = some u' → u.ownBlock = some g → u'.ownBlock ≠ some g) ∧ Below O W1 wr

theorem own_grown_other {W W' : World} {base base2 : Nat} {e e2 : TypeId} {sz : Nat} {v u : Value} {n k : Nat} {xs ys : List Value} (hne : e ≠ e2) (hu : W.ownsRow base2 e2 sz u k ys) (hv : W.ownsRow base e 1 v n xs) (hg : W.grownBy W' v.ownBlock) :
    W'.ownsRow base2 e2 sz u k ys := by
  refine hu.kept hg ?_
  rcases hu.2 with ⟨rfl, _⟩ | ⟨g, cap, cur, rfl, _, hh, _⟩
  · exact .inl rfl
  · right
    intro he
    rcases hv.2 with ⟨rfl, _⟩ | ⟨g', cap', cur', rfl, _, hh', _⟩
    · simp [Value.ownBlock] at he
    · have e' : g = g' := by simpa [Value.ownBlock] using he
      subst e'
      rw [hh] at hh'
      simp at hh'
      exact hne hh'.2.symm

theorem copyRel_step {W1 wr w2 w3 : World} {O k gg cap : Nat} {f : List (List Nat)} {u v1 : Value} {vals : List Value}
    (hO : wr.heap[O]? = some (.cells #[u] 24 (0, 0))) (hown : wr.ownsRow (O + 1) 56 1 u k vals)
    (hrows : ∀ t u, vals[t]? = some u → wr.ownsRow (O + 1) 5 1 u (nthRow f t).length (u8s (nthRow f t)))
    (hdist : ∀ (t t' : Nat) (u u' : Value) (g : Nat), t ≠ t' → vals[t]? = some u → vals[t']? = some u' → u.ownBlock = some g → u'.ownBlock ≠ some g) (hbw : Below O W1 wr)
    (own1 : w2.ownsRow wr.heap.size 5 1 v1 (0 + (nthRow f k).length) ([] ++ (List.range (nthRow f k).length).map fun t => .int .u8 (nth (nthRow f k) t : Nat)))
    (grow1 : (wr.alloc (.cells #[] 5)).drew.grownBy w2 (some wr.heap.size))
    (at1 : v1.ownBlock = some wr.heap.size ∨ v1.ownBlock = some (wr.heap.size + 1))
    (own3 : w3.ownsRow (O + 1) 56 1 (.slice (some ⟨gg, 0, none⟩) (k + 1) cap) (k + 1) (vals ++ [v1]))
    (grow3 : (w2.alloc (.cells #[v1] 56)).grownBy w3 u.ownBlock) :
    CopyRel W1 O f (k + 1) (w3.setCell ⟨O, 0, none⟩ (.slice (some ⟨gg, 0, none⟩) (k + 1) cap)) := by
  have hlt := lt_of_block hO
  have hl : vals.length = k := by simpa using hown.1
  have hne : some O ≠ u.ownBlock := by
    intro e
    have := (hown.lt _ e.symm).1
    omega
  have z2 : wr.heap.size + 1 ≤ w2.heap.size := by simpa using grow1.size
  have hO2 : w2.heap[O]? = some (.cells #[u] 24 (0, 0)) := (grow1.block O (by simp; omega) (by simp; omega)).trans ((Below.heap_alloc wr _ O hlt).trans hO)
  have hO3 : w3.heap[O]? = some (.cells #[u] 24 (0, 0)) := (grow3.block O (by simp; omega) hne).trans ((Below.heap_alloc w2 _ O (by omega)).trans hO2)
  have hgg := own3.lt gg rfl
  rw [u8s_range, Nat.zero_add, List.nil_append] at own1
  have hownA : (wr.alloc (.cells #[] 5)).drew.ownsRow (O + 1) 56 1 u k vals := hown.alloc _
  have hown2 : w2.ownsRow (O + 1) 56 1 u k vals := by
    refine hownA.kept grow1 ?_
    cases e : u.ownBlock with
    | none => exact .inl rfl
    | some g =>
      right
      have := (hown.lt g e).2
      simp; omega
  have hvlt : ∀ (t : Nat) (x : Value) (g : Nat), vals[t]? = some x → x.ownBlock = some g → g < wr.heap.size := fun t x g hx hg => ((hrows t x hx).lt g hg).2
  have hat : ∀ (t : Nat) (x : Value), (vals ++ [v1])[t]? = some x → (t < k ∧ vals[t]? = some x) ∨ (t = k ∧ x = v1) := by
    intro t x hx
    rcases Nat.lt_or_ge t k with hi | hi
    · rw [List.getElem?_append_left (by omega)] at hx
      exact .inl ⟨hi, hx⟩
    · rw [List.getElem?_append_right (by omega), hl] at hx
      have hik : t = k := by
        rcases Nat.lt_or_ge (t - k) 1 with h | h
        · omega
        · rw [List.getElem?_eq_none (by simpa using h)] at hx; cases hx
      subst hik
      simp at hx
      exact .inr ⟨rfl, hx.symm⟩
  have hv1 : ∀ g, v1.ownBlock = some g → wr.heap.size ≤ g := by
    intro g hg
    rcases at1 with h | h <;> (rw [hg] at h; simp at h; omega)
  refine ⟨_, _, one_setCell hO3, ownsRow_setCell_other (a := ⟨O, 0, none⟩) own3 (by simp [Value.ownBlock]; omega) _, ?_, ?_, ?_⟩
  · intro t x hx
    have key : ∀ (rows : List Value) (n : Nat), w2.ownsRow (O + 1) 5 1 x n rows → (w3.setCell ⟨O, 0, none⟩ (.slice (some ⟨gg, 0, none⟩) (k + 1) cap)).ownsRow (O + 1) 5 1 x n rows := by
      intro rows n h
      have h3 : w3.ownsRow (O + 1) 5 1 x n rows := own_grown_other (by decide) (h.alloc (.cells #[v1] 56)) (hown2.alloc _) grow3
      refine ownsRow_setCell_other (a := ⟨O, 0, none⟩) h3 ?_ _
      intro e
      have := (h3.lt O e).1
      omega
    rcases hat t x hx with ⟨ht, hx'⟩ | ⟨rfl, rfl⟩
    · refine key _ _ ?_
      have h0 : (wr.alloc (.cells #[] 5)).drew.ownsRow (O + 1) 5 1 x (nthRow f t).length (u8s (nthRow f t)) := (hrows t x hx').alloc _
      refine h0.kept grow1 ?_
      cases e : x.ownBlock with
      | none => exact .inl rfl
      | some g =>
        right
        have := hvlt t x g hx' e
        simp; omega
    · refine key _ _ ?_
      refine ⟨own1.1, ?_⟩
      rcases own1.2 with h | ⟨g, cap, cur, h1, h2, h3⟩
      · exact .inl h
      · exact .inr ⟨g, cap, cur, h1, by omega, h3⟩
  · intro t t' x x' g hne' hx hx' hg hg'
    rcases hat t x hx with ⟨ht, hx1⟩ | ⟨e1, e2⟩ <;> rcases hat t' x' hx' with ⟨ht', hx2⟩ | ⟨e3, e4⟩
    · exact hdist t t' x x' g hne' hx1 hx2 hg hg'
    · have := hvlt t x g hx1 hg
      have := hv1 g (e4 ▸ hg')
      omega
    · have := hvlt t' x' g hx2 hg'
      have := hv1 g (e2 ▸ hg)
      omega
    · exact hne' (e1.trans e3.symm)
  · refine Below.setCell ?_ (by simp) _
    have hb2 : Below O W1 w2 := Below.grown ((hbw.alloc (by omega) _).drew) grow1 (by simp; omega) (fun j hj => by simp at hj; omega)
    refine Below.grown (hb2.alloc (by omega) _) grow3 (by simp; omega) ?_
    intro j hj
    have := (hown.lt j hj).1
    omega

end Go.Proofs.Ytncgechmloekbaa
