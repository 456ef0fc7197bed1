/- Chapter 29, the walk: tree of the parser: the deferred closure that recovers. | Chapter 29, the walk: tree of the parser. -/
import Derived.Test.YtdeccekeknlnoaaGreatDoorJPoAdd
import Derived.Defers
import Derived.Recover
namespace Go.Proofs.YtdeccekeknlnoaaGreatDoor
open Go.RowKit
/-- the two named results: empty and false -/
def Cleared (a : Nat) (w w' : World) : Prop := w'.heap[a]? = some (.cells #[.slice none 0 0] 87 (0, 0)) ∧ w'.heap[a + 1]? = some (.cells #[.bool false] 4 (0, 0)) ∧ Below a w w'
theorem set_one {w : World} {p : Nat} {a v : Value} {t : TypeId} (h : w.heap[p]? = some (.cells #[a] t (0, 0))) : (w.setCell ⟨p, 0, none⟩ v).heap[p]? = some (.cells #[v] t (0, 0)) := by
  simp only [World.setCell, Array.getElem?_modify, h]
  simp
theorem cleared_of {a : Nat} {va vb : Value} {w : World} {ob : Obj} (hc : w.heap[a]? = some (.cells #[va] 87 (0, 0))) (hd : w.heap[a + 1]? = some (.cells #[vb] 4 (0, 0))) :
    Cleared a w (((w.setCell ⟨a, 0, none⟩ (.slice none 0 0)).setCell ⟨a + 1, 0, none⟩ (.bool false)).alloc ob) := by
  have la := lt_of_block hc
  have lb := lt_of_block hd
  have hs : ∀ (x : World) (b : Nat) (v : Value), (x.setCell ⟨b, 0, none⟩ v).heap.size = x.heap.size := fun x b v => by simp [World.setCell]
  refine ⟨?_, ?_, ?_⟩
  · rw [Below.heap_alloc _ _ _ (by rw [hs, hs]; exact la), set_other _ _ _ _ _ (by omega)]
    exact set_one hc
  · rw [Below.heap_alloc _ _ _ (by rw [hs, hs]; exact lb)]
    refine set_one (a := vb) ?_
    rw [set_other _ _ _ _ _ (by omega)]
    exact hd
  · exact (((Below.refl _ _).setCell (p := ⟨a, 0, none⟩) (Nat.le_refl _) _).setCell (p := ⟨a + 1, 0, none⟩) (Nat.le_succ _) _).alloc (by rw [hs, hs]; exact Nat.le_of_lt la) _
set_option maxRecDepth 1000000 in
theorem catch_panicking (a : Nat) (va vb : Value) (older : List PanicEntry) (w : World) (hc : w.heap[a]? = some (.cells #[va] 87 (0, 0))) (hd : w.heap[a + 1]? = some (.cells #[vb] 4 (0, 0))) :
    CallsD Tryz.prog 118 #[.pointer (some ⟨a, 0, none⟩), .pointer (some ⟨a + 1, 0, none⟩)] (.panicking ({ v := failV, recovered := false } :: older)) w fun e u' w' =>
      e = .returned (.tuple #[]) ∧ u' = .panicking ({ v := failV, recovered := true } :: older) ∧ Cleared a w w' := by
  unfold failV
  obtain ⟨S, hS⟩ : ∃ S, Cleared a w = S := ⟨_, rfl⟩
  rw [hS]
  refine callsD_of_wpS Tryz.func118 rfl fun c₀ cs hu => ?_
  apply wpS_seq
  apply wpS_region
  simp [wpOpsS, go_sem, recoverD, hu, Tryz.ntmps118, Exit.thenS]
  refine wpS_of_wp ?_
  have ca : w.cell? ⟨a, 0, none⟩ = some va ∧ ∀ o, w.frozen? ⟨a, o, none⟩ = false := by constructor <;> simp [World.cell?, World.frozen?, hc]
  have cb : w.cell? ⟨a + 1, 0, none⟩ = some vb ∧ ∀ o, w.frozen? ⟨a + 1, o, none⟩ = false := by constructor <;> simp [World.cell?, World.frozen?, hd]
  obtain ⟨ca, za⟩ := ca
  obtain ⟨cb, zb⟩ := cb
  have la := lt_of_block hc
  have lb := lt_of_block hd
  have hta : ∀ w, (Instr.typeAssert (.iface 209 (.agg #[])) 20 209 true).run Tryz.prog w = .ok (.tuple #[.agg #[], .bool true]) w := fun _ => by kernel_rfl
  have HC := Lib.hid (And.intro hc hd)
  clear hc hd
  change Code.wp _ _ _ { tmps := #[.pointer (some ⟨a, 0, none⟩), .pointer (some ⟨a + 1, 0, none⟩), undef, undef, undef, .iface 209 (.agg #[]), undef, undef, undef, undef, undef], defers := [] } _
  go_wp2_with fail
  cases c₀
  have hend := cleared_of (ob := .cells #[] 209) HC.out.1 HC.out.2
  rw [hS] at hend
  simp [bodyPostS, results, Tryz.results118]
  exact hend
theorem catch_idle (a b : Nat) (w : World) :
    CallsD Tryz.prog 118 #[.pointer (some ⟨a, 0, none⟩), .pointer (some ⟨b, 0, none⟩)] .returning w fun e u' w' => e = .returned (.tuple #[]) ∧ u' = .returning ∧ w' = w := by
  refine callsD_of_wpS Tryz.func118 rfl fun c₀ cs hu => ?_
  apply wpS_seq
  apply wpS_region
  simp [wpOpsS, go_sem, recoverD, hu, Tryz.ntmps118, Exit.thenS]
  refine wpS_of_wp ?_
  change Code.wp _ _ _ { tmps := #[.pointer (some ⟨a, 0, none⟩), .pointer (some ⟨b, 0, none⟩), undef, undef, undef, .nilIface, undef, undef, undef, undef, undef], defers := [] } _
  go_wp2_with fail
  cases c₀
  simp_all [bodyPostS, results, Tryz.results118]
end Go.Proofs.YtdeccekeknlnoaaGreatDoor

namespace Go.Proofs.YtdeccekeknlnoaaGreatDoor
open Go.RowKit
/-- what stood below the world's end stands as it stood -/
def Und (W W' : World) : Prop := Below W.heap.size W W'
theorem Und.trans {W W1 W2 : World} (h : Und W W1) (g : Below W.heap.size W1 W2) : Und W W2 := Below.trans h g
theorem Und.size {W W1 : World} (h : Und W W1) : W.heap.size ≤ W1.heap.size := Below.size h
theorem Und.cell {W W1 : World} (h : Und W W1) {p : Addr} (hp : p.block < W.heap.size) : W1.cell? p = W.cell? p := Below.cell h hp
theorem Und.mono {W W1 : World} {B : Nat} (h : Und W W1) (hB : B ≤ W.heap.size) : Below B W W1 := Below.mono h hB
/-- the operands of a node, read; blocks from L to B -/
def OfAt (w : World) (L B : Nat) (u : Value) (xs : List Nat) : Prop :=
  (xs = [] ∧ u = .slice none 0 0) ∨ ∃ b cap, u = .slice (some ⟨b, 0, none⟩) xs.length cap ∧ L ≤ b ∧ b < B ∧ xs.length ≤ cap ∧ cap ≤ maxLen ∧ ∀ (i : Nat) (x : Nat), xs[i]? = some x → w.cell? ⟨b, i, none⟩ = some (.int .i64 x)
/-- a slice of nodes, read; blocks from L to B -/
def RNds (w : World) (L B : Nat) (v : Value) (o : List Po.Nd) : Prop :=
  ∃ A c, v = .slice A o.length c ∧ o.length ≤ c ∧ c ≤ maxLen ∧ (0 < o.length → ∃ b off, A = some ⟨b, off, none⟩ ∧ L ≤ b ∧ b < B ∧ ∀ (i : Nat) (x : Po.Nd), o[i]? = some x → ∃ u, (∀ (j : Nat) (z : Value), (ndVals x u)[j]? = some z → w.cell? ⟨b, off + i * 21 + j, none⟩ = some z) ∧ OfAt w L B u x.of)
theorem OfAt.frame {w w' : World} {L B : Nat} {u : Value} {xs : List Nat} (h : OfAt w L B u xs) (hb : ∀ k, L ≤ k → k < B → w'.heap[k]? = w.heap[k]?) : OfAt w' L B u xs := by
  rcases h with h | ⟨b, cap, h1, hL, h2, h3, h4, h5⟩
  · exact .inl h
  · exact .inr ⟨b, cap, h1, hL, h2, h3, h4, fun i x hx => (World.cell?_of_block (a := ⟨b, i, none⟩) (hb b hL h2)).trans (h5 i x hx)⟩
theorem RNds.frame {w w' : World} {L B : Nat} {v : Value} {o : List Po.Nd} (h : RNds w L B v o) (hb : ∀ k, L ≤ k → k < B → w'.heap[k]? = w.heap[k]?) : RNds w' L B v o := by
  obtain ⟨A, c, h1, h2, h3, h4⟩ := h
  refine ⟨A, c, h1, h2, h3, fun hn => ?_⟩
  obtain ⟨b, off, hA, hL, hlt, hc⟩ := h4 hn
  refine ⟨b, off, hA, hL, hlt, fun i x hx => ?_⟩
  obtain ⟨u, hu, ho⟩ := hc i x hx
  exact ⟨u, fun j z hz => (World.cell?_of_block (a := ⟨b, _, none⟩) (hb b hL hlt)).trans (hu j z hz), ho.frame hb⟩
theorem RNds.below {w w' : World} {L B : Nat} {v : Value} {o : List Po.Nd} (h : RNds w L B v o) (hb : Below B w w') : RNds w' L B v o := h.frame fun k _ hk => hb.block k hk
theorem OfAt.more {w : World} {L L' B B' : Nat} {u : Value} {xs : List Nat} (h : OfAt w L B u xs) (hL : L' ≤ L) (hB : B ≤ B') : OfAt w L' B' u xs := by
  rcases h with h | ⟨b, cap, h1, h0, h2, h3⟩
  · exact .inl h
  · exact .inr ⟨b, cap, h1, by omega, by omega, h3⟩
theorem RNds.more {w : World} {L L' B B' : Nat} {v : Value} {o : List Po.Nd} (h : RNds w L B v o) (hL : L' ≤ L) (hB : B ≤ B') : RNds w L' B' v o := by
  obtain ⟨A, c, h1, h2, h3, h4⟩ := h
  refine ⟨A, c, h1, h2, h3, fun hn => ?_⟩
  obtain ⟨b, off, hA, h0, hlt, hc⟩ := h4 hn
  refine ⟨b, off, hA, by omega, by omega, fun i x hx => ?_⟩
  obtain ⟨u, hu, ho⟩ := hc i x hx
  exact ⟨u, hu, ho.more hL hB⟩
theorem RNds.form {w : World} {L B : Nat} {v : Value} {o : List Po.Nd} (h : RNds w L B v o) : ∃ A c, v = .slice A o.length c ∧ o.length ≤ c ∧ c ≤ maxLen := by
  obtain ⟨A, c, h1, h2, h3, _⟩ := h
  exact ⟨A, c, h1, h2, h3⟩
theorem ndFlat_at : ∀ (o : List Po.Nd) (vs : List Value) (i : Nat) (x : Po.Nd) (u : Value) (j : Nat) (z : Value), (∀ y ∈ o, y.dg.length = 16) → o[i]? = some x → vs[i]? = some u → (ndVals x u)[j]? = some z → (ndFlat o vs)[i * 21 + j]? = some z
  | [], _, i, x, u, j, z, _, h, _, _ => by simp at h
  | y :: o, [], i, x, u, j, z, _, _, h, _ => by simp at h
  | y :: o, v :: vs, 0, x, u, j, z, hd, h, hv, hz => by
    simp at h hv
    subst h; subst hv
    have hj : j < (ndVals y v).length := (List.getElem?_eq_some_iff.1 hz).1
    simp only [ndFlat, Nat.zero_mul, Nat.zero_add]
    rw [List.getElem?_append_left hj]
    exact hz
  | y :: o, v :: vs, i + 1, x, u, j, z, hd, h, hv, hz => by
    have I := ndFlat_at o vs i x u j z (fun y hy => hd y (by simp [hy])) (by simpa using h) (by simpa using hv) hz
    have hl : (ndVals y v).length = 21 := ndVals_len (hd y (by simp))
    simp only [ndFlat]
    rw [List.getElem?_append_right (by omega), hl, show (i + 1) * 21 + j - 21 = i * 21 + j by omega]
    exact I
theorem okAll_dg {o : List Po.Nd} (h : Po.OkAll o) : ∀ y ∈ o, y.dg.length = 16 := by
  intro y hy
  obtain ⟨i, hi, rfl⟩ := List.getElem_of_mem hy
  exact (h i _ (List.getElem?_eq_getElem hi)).dg
theorem RNds.of_nds {p : Nat} {w : World} {vo : Value} {o : List Po.Nd} {ofs : List Value} (h : Nds p w vo o ofs) (hd : Po.OkAll o) : RNds w (p + 1) w.heap.size vo o := by
  have hdg := okAll_dg hd
  rcases Nat.eq_zero_or_pos o.length with hz | hn
  · obtain ⟨_, ⟨h1, _⟩ | ⟨g, cap, cur, h1, h2, h3, h4, h5, _⟩⟩ := h.row
    · exact ⟨none, 0, by rw [hz]; exact h1, by omega, by simp [maxLen], fun hh => by omega⟩
    · exact ⟨_, cap, h1, h4, h5, fun hh => by omega⟩
  · obtain ⟨g, cap, hv, hg, hlt, hc, hm, hx⟩ := own_cells h.row hn
    refine ⟨some ⟨g, 0, none⟩, cap, hv, hc, hm, fun _ => ⟨g, 0, rfl, hg, hlt, fun i x hi => ?_⟩⟩
    have hil : i < o.length := (List.getElem?_eq_some_iff.1 hi).1
    obtain ⟨u, hu⟩ : ∃ u, ofs[i]? = some u := ⟨_, List.getElem?_eq_getElem (by rw [h.len]; exact hil)⟩
    refine ⟨u, fun j z hz => ?_, ?_⟩
    · rw [Nat.zero_add]
      exact hx _ _ (ndFlat_at o ofs i x u j z hdg hi hu hz)
    · rcases h.of i x u hi hu with h | ⟨b, cap', h1, h2, h3, h4, h5, h6, h7⟩
      · exact .inl h
      · exact .inr ⟨b, cap', h1, h2, h3, h5, h6, h7⟩
theorem Nds.above {p : Nat} {w w' : World} {vo : Value} {o : List Po.Nd} {ofs : List Value} (h : Nds p w vo o ofs) (hb : ∀ k, p < k → k < w.heap.size → w'.heap[k]? = w.heap[k]?) (hs : w.heap.size ≤ w'.heap.size) : Nds p w' vo o ofs := by
  refine ⟨own_frame h.row (fun k hk => ?_), h.len, fun i x v hx hv => ?_⟩
  · have := h.row.lt k hk
    exact hb k (by omega) this.2
  · rcases h.of i x v hx hv with h1 | ⟨b, cap, h1, h2, h3, h4, h5, h6, h7⟩
    · exact .inl h1
    · exact .inr ⟨b, cap, h1, h2, Nat.lt_of_lt_of_le h3 hs, h4, h5, h6, fun i x hx => (World.cell?_of_block (a := ⟨b, i, none⟩) (hb b h2 h3)).trans (h7 i x hx)⟩
theorem rnds_nil (w : World) (L B : Nat) : RNds w L B (.slice none 0 0) [] := ⟨none, 0, rfl, Nat.le_refl _, by simp [maxLen], fun h => by simp at h⟩
def treeOf : Option (List Po.Tok × List Po.Nd) → Option (List Po.Nd)
  | some ([], o) => some o
  | _ => none
theorem tree_eq {l : List Po.Tok} {r : Option (List Po.Tok × List Po.Nd)} (hr : Po.P (6 * l.length + 6) 0 l [] = some r) : Po.tree l = treeOf r := by
  unfold Po.tree
  rw [hr]
  rcases r with _ | ⟨_ | ⟨x, y⟩, o⟩ <;> rfl
/-- what tree answers -/
def TreeSays (w : World) (r : Option (List Po.Nd)) (e : Ending) (w' : World) : Prop := match r with
  | some o => ∃ v, e = .returned (.tuple #[v, .bool true]) ∧ RNds w' w.heap.size w'.heap.size v o ∧ Po.OkAll o ∧ Below w.heap.size w w'
  | none => ∃ A n c, e = .returned (.tuple #[.slice A n c, .bool false]) ∧ Below w.heap.size w w'
set_option maxRecDepth 1000000 in
set_option maxHeartbeats 4000000 in
theorem pa_tree (v : Value) (l : List Po.Tok) (w : World) (h : RToks w w.heap.size v l) (ht : Po.OkToks l) (hl : l.length ≤ 100000) :
    Calls Tryz.prog 69 #[v] w (TreeSays w (Po.tree l)) := by
  have hmf : ∀ (fn : Fn) (first cap : Array Value) (w : World), (Instr.makeFunc fn first cap).run Tryz.prog w = .ok (.func fn first cap) w := fun _ _ _ _ => rfl
  obtain ⟨A, c, rfl, -, -⟩ := h.form
  obtain ⟨r, hr⟩ : ∃ r, Po.P (6 * l.length + 6) 0 l [] = some r := by
    cases hq : Po.P (6 * l.length + 6) 0 l [] with
    | none => exact absurd hq (Po.P_total _ _ _ _ (by simp [Po.bar]))
    | some r => exact ⟨r, rfl⟩
  obtain ⟨W, hW⟩ : ∃ W, ((w.alloc (.cells #[.slice none 0 0] 87)).alloc (.cells #[.bool false] 4)).alloc (.cells #[.slice A l.length c, .slice none 0 0] 212) = W := ⟨_, rfl⟩
  have hbW : Below w.heap.size w W := by rw [← hW]; exact (((Below.refl _ _).alloc (Nat.le_refl _) _).alloc (by simp) _).alloc (by simp; omega) _
  have hsW : W.heap.size = w.heap.size + 3 := by rw [← hW]; simp
  have h0 : W.heap[w.heap.size]? = some (.cells #[.slice none 0 0] 87 (0, 0)) := by
    rw [← hW]
    exact (Below.heap_alloc _ _ _ (by simp; omega)).trans ((Below.heap_alloc _ _ _ (by simp)).trans (heap_alloc_new _ _))
  have h1 : W.heap[w.heap.size + 1]? = some (.cells #[.bool false] 4 (0, 0)) := by
    rw [← hW]
    refine (Below.heap_alloc _ _ _ (by simp)).trans ?_
    have e := heap_alloc_new (w.alloc (.cells #[.slice none 0 0] 87)) (.cells #[.bool false] 4)
    rwa [World.size_alloc] at e
  have h2 : W.heap[w.heap.size + 1 + 1]? = some (.cells #[.slice A l.length c, .slice none 0 0] 212 (0, 0)) := by
    rw [← hW]
    have e := heap_alloc_new ((w.alloc (.cells #[.slice none 0 0] 87)).alloc (.cells #[.bool false] 4)) (.cells #[.slice A l.length c, .slice none 0 0] 212)
    rwa [World.size_alloc, World.size_alloc] at e
  have hin : Pin (w.heap.size + 1 + 1) W l [] none := by
    refine ⟨⟨.slice A l.length c, .slice none 0 0, [], h2, (h.below hbW).more (by omega), ⟨World.ownsRow_nil _ _ _ _, rfl, fun i x u hx => by simp at hx⟩, rfl⟩, ht, .nil, by simpa using hl⟩
  have HTR := Lib.hid (tree_eq hr)
  have HIN := Lib.hid (And.intro hr hin)
  have HC := Lib.hid (And.intro h0 (And.intro h1 (And.intro h2 (And.intro hbW hsW))))
  clear hr hin h0 h1 h2 hbW h ht hl
  obtain ⟨S, hS⟩ : ∃ S, TreeSays w (Po.tree l) = S := ⟨_, rfl⟩
  rw [hS]
  go_enter_defers Tryz.func69, Tryz.ntmps69
  go_upto_region 3 with fail
  clear hW
  go_wp2_with fail
  refine (pa_policy (6 * l.length + 6) HIN.out.1 HIN.out.2).mono ?_
  intro e w3 hn
  cases r with
  | none =>
    obtain ⟨hf, hfr⟩ := hn
    have hX : Po.tree l = none := HTR.out
    unfold Fails at hf
    subst hf
    have g0 : w3.heap[w.heap.size]? = some (.cells #[.slice none 0 0] 87 (0, 0)) := (hfr.block _ (by have := HC.out.2.2.2.2; omega) (by omega) (by simp)).trans HC.out.1
    have g1 : w3.heap[w.heap.size + 1]? = some (.cells #[.bool false] 4 (0, 0)) := (hfr.block _ (by have := HC.out.2.2.2.2; omega) (by omega) (by simp)).trans HC.out.2.1
    have hb3 : Below w.heap.size w w3 := HC.out.2.2.2.1.trans (hfr.below (by have := HC.out.2.2.2.2; omega) (fun k hk => by cases hk) |>.mono (by omega))
    go_wp2_with fail
    refine leaves_cons (f := 118) (args := #[.pointer (some ⟨w.heap.size, 0, none⟩), .pointer (some ⟨w.heap.size + 1, 0, none⟩)]) (by simp) (by simp [go_sem]) ?_
    refine (catch_panicking w.heap.size _ _ [] _ g0 g1).mono ?_
    rintro e u' w4 ⟨rfl, rfl, hcl⟩
    obtain ⟨k0, k1, kb⟩ := hcl
    have c0 : w4.cell? ⟨w.heap.size, 0, none⟩ = some (.slice none 0 0) := by simp [World.cell?, k0]
    have c1 : w4.cell? ⟨w.heap.size + 1, 0, none⟩ = some (.bool false) := by simp [World.cell?, k1]
    have hend : S (.returned (.tuple #[.slice none 0 0, .bool false])) w4 := by
      rw [← hS, hX]
      exact ⟨none, 0, 0, rfl, hb3.trans kb⟩
    simp [Leaves, settle, results, Tryz.results69, go_sem, c0, c1, asAddr]
    exact hend
  | some x =>
    obtain ⟨hf, own1, hin1, hnw1, hfr1⟩ := hn
    subst hf
    have g0 : w3.heap[w.heap.size]? = some (.cells #[.slice none 0 0] 87 (0, 0)) := (hfr1.block _ (by have := HC.out.2.2.2.2; omega) (by omega) (by simp)).trans HC.out.1
    have g1 : w3.heap[w.heap.size + 1]? = some (.cells #[.bool false] 4 (0, 0)) := (hfr1.block _ (by have := HC.out.2.2.2.2; omega) (by omega) (by simp)).trans HC.out.2.1
    have hb3 : Below w.heap.size w w3 := HC.out.2.2.2.1.trans (hfr1.below (by have := HC.out.2.2.2.2; omega) (fun k hk => by cases hk) |>.mono (by omega))
    obtain ⟨vl, vo, ofs, hc, ht, hnd, hown⟩ := hin1.at_
    obtain ⟨A2, c2, rfl, -, -⟩ := ht.form
    obtain ⟨A3, c3, hvo, -⟩ := (RNds.of_nds hnd hin1.nds).form
    subst hvo
    obtain ⟨c0, c1, cz⟩ := two_cells hc
    have d0 : w3.cell? ⟨w.heap.size, 0, none⟩ = some (.slice none 0 0) ∧ ∀ o, w3.frozen? ⟨w.heap.size, o, none⟩ = false := by constructor <;> simp [World.cell?, World.frozen?, g0]
    have d1 : w3.cell? ⟨w.heap.size + 1, 0, none⟩ = some (.bool false) ∧ ∀ o, w3.frozen? ⟨w.heap.size + 1, o, none⟩ = false := by constructor <;> simp [World.cell?, World.frozen?, g1]
    obtain ⟨d0, z0⟩ := d0
    obtain ⟨d1, z1⟩ := d1
    have HG := Lib.hid (And.intro g0 (And.intro g1 (And.intro hb3 (And.intro hnd (hin1.nds)))))
    clear g0 g1 hb3 hc ht hnd hown hin1 hnw1 hfr1
    go_upto_region 4 with fail
    go_region
    have hend : ∀ W4, W4 = ((w3.setCell ⟨w.heap.size, 0, none⟩ (.slice A3 x.2.length c3)).setCell ⟨w.heap.size + 1, 0, none⟩ (.bool ((x.1.length : Int) == 0))).drew →
        W4.cell? ⟨w.heap.size, 0, none⟩ = some (.slice A3 x.2.length c3) ∧ W4.cell? ⟨w.heap.size + 1, 0, none⟩ = some (.bool ((x.1.length : Int) == 0)) ∧ S (.returned (.tuple #[.slice A3 x.2.length c3, .bool ((x.1.length : Int) == 0)])) W4 := by
      rintro W4 rfl
      obtain ⟨g0, g1, hb3, hnd, hnds⟩ := HG.out
      have hs : ∀ (x : World) (b : Nat) (v : Value), (x.setCell ⟨b, 0, none⟩ v).heap.size = x.heap.size := fun x b v => by simp [World.setCell]
      refine ⟨?_, ?_, ?_⟩
      · have e : (w3.setCell ⟨w.heap.size, 0, none⟩ (.slice A3 x.2.length c3)).heap[w.heap.size]? = some (.cells #[.slice A3 x.2.length c3] 87 (0, 0)) := set_one g0
        have e2 := (set_other (w3.setCell ⟨w.heap.size, 0, none⟩ (.slice A3 x.2.length c3)) (w.heap.size + 1) 0 (.bool ((x.1.length : Int) == 0)) w.heap.size (by omega)).trans e
        show World.cell? _ _ = _
        simp [World.cell?, World.drew, e2]
      · have e2 : ((w3.setCell ⟨w.heap.size, 0, none⟩ (.slice A3 x.2.length c3)).setCell ⟨w.heap.size + 1, 0, none⟩ (.bool ((x.1.length : Int) == 0))).heap[w.heap.size + 1]? = some (.cells #[.bool ((x.1.length : Int) == 0)] 4 (0, 0)) := set_one (a := .bool false) ((set_other _ _ _ _ _ (by omega)).trans g1)
        simp [World.cell?, World.drew, e2]
      · rw [← hS]
        have hX : Po.tree l = treeOf (some x) := HTR.out
        have hB : Below w.heap.size w ((w3.setCell ⟨w.heap.size, 0, none⟩ (.slice A3 x.2.length c3)).setCell ⟨w.heap.size + 1, 0, none⟩ (.bool ((x.1.length : Int) == 0))).drew := ((hb3.setCell (p := ⟨w.heap.size, 0, none⟩) (Nat.le_refl _) _).setCell (p := ⟨w.heap.size + 1, 0, none⟩) (Nat.le_succ _) _).drew
        obtain ⟨x1, x2⟩ := x
        cases x1 with
        | nil =>
          rw [hX]
          refine ⟨.slice A3 x2.length c3, rfl, (RNds.of_nds (hnd.above (fun k hk hk2 => ?_) (by simp [World.drew, World.setCell])) hnds).more (by omega) (Nat.le_refl _), hnds, hB⟩
          show ((w3.setCell _ _).setCell _ _).heap[k]? = _
          rw [set_other _ _ _ _ _ (by omega), set_other _ _ _ _ _ (by omega)]
        | cons y ys =>
          rw [hX]
          exact ⟨A3, x2.length, c3, rfl, hB⟩
    go_wp2_with fail
    refine leaves_cons (f := 118) (args := #[.pointer (some ⟨w.heap.size, 0, none⟩), .pointer (some ⟨w.heap.size + 1, 0, none⟩)]) (by simp) (by simp [go_sem]) ?_
    refine (catch_idle w.heap.size (w.heap.size + 1) _).mono ?_
    rintro e u' w4 ⟨rfl, rfl, rfl⟩
    obtain ⟨c4, c5, hend⟩ := hend _ rfl
    revert c4 c5 hend
    generalize ((w3.setCell ⟨w.heap.size, 0, none⟩ (.slice A3 x.2.length c3)).setCell ⟨w.heap.size + 1, 0, none⟩ (.bool ((x.1.length : Int) == 0))).drew = W4
    intro c4 c5 hend
    clear c0 c1 d0 d1
    simp [Leaves, settle, results, Tryz.results69, go_sem, c4, c5, asAddr]
    exact hend
end Go.Proofs.YtdeccekeknlnoaaGreatDoor
