/- Chapter 29, the walk: digit and with of the reference. -/
import Derived.Test.YtdolpmmnjndfkaaGreatDoorPoRfD
import Derived.Test.YtdolpmmnjndfkaaGreatDoorPoTreeX
import Derived.Test.YtdolpmmnjndfkaaGreatDoorPoEv
import Derived.Deep.AppendLies
import Derived.Deep.RegionHeldLaw
namespace Go.Proofs.YtdolpmmnjndfkaaGreatDoor
open Go.RowKit
/-- the value of a hexadecimal digit; -1: none -/
def hexV (b : UInt8) : Int := match Po.hexd b with
  | some n => n
  | none => -1
theorem hexV_nat (b : UInt8) : hexV b = if 48 ≤ b.toNat ∧ b.toNat ≤ 57 then (b.toNat : Int) - 48 else if 97 ≤ b.toNat ∧ b.toNat ≤ 102 then (b.toNat : Int) - 87 else -1 := by
  have h : ∀ n : Fin 256, hexV (UInt8.ofNat n.val) = if 48 ≤ n.val ∧ n.val ≤ 57 then (n.val : Int) - 48 else if 97 ≤ n.val ∧ n.val ≤ 102 then (n.val : Int) - 87 else -1 := by decide +kernel
  have := h ⟨b.toNat, b.toNat_lt⟩
  simpa using this
theorem rf_digit (b : UInt8) (w : World) :
    Calls Tryz.prog 116 #[.int .u8 (b.toNat : Int)] w fun e w' => e = .returned (.int .i64 (hexV b)) ∧ w' = w := by
  have HX := Lib.hid (hexV_nat b)
  have hb := b.toNat_lt
  obtain ⟨n, hn⟩ : ∃ n, b.toNat = n := ⟨_, rfl⟩
  rw [hn] at HX hb ⊢
  clear hn
  have hc : (48 ≤ n ∧ n ≤ 57) ∨ (97 ≤ n ∧ n ≤ 102) ∨ (¬ (48 ≤ n ∧ n ≤ 57) ∧ ¬ (97 ≤ n ∧ n ≤ 102)) := by omega
  rcases hc with hc | hc | hc
  · have h1 : (48 : Int) ≤ n := by omega
    have h2 : (n : Int) ≤ 57 := by omega
    have w1 : IntKind.u8.wrap ((n : Int) - 48) = (n : Int) - 48 := by simp [IntKind.wrap, IntKind.bits, IntKind.signed]; omega
    have w2 : IntKind.i64.wrap ((n : Int) - 48) = (n : Int) - 48 := by rw [raw_wrap]; unfold wrap64; omega
    have HY := Lib.hid (show hexV b = (n : Int) - 48 by rw [HX.out, if_pos hc])
    clear hc hb
    go_enter Tryz.func116, Tryz.ntmps116
    go_wp2_with fail
    go_ret
    exact ⟨ret_int (by rw [HY.out]), rfl⟩
  · have h1 : (48 : Int) ≤ n := by omega
    have h2 : ¬ (n : Int) ≤ 57 := by omega
    have h3 : (97 : Int) ≤ n := by omega
    have h4 : (n : Int) ≤ 102 := by omega
    have w1 : IntKind.u8.wrap ((n : Int) - 97) = (n : Int) - 97 := by simp [IntKind.wrap, IntKind.bits, IntKind.signed]; omega
    have w2 : IntKind.i64.wrap ((n : Int) - 97) = (n : Int) - 97 := by rw [raw_wrap]; unfold wrap64; omega
    have w3 : wrap64 ((n : Int) - 97 + 10) = (n : Int) - 87 := by unfold wrap64; omega
    have HY := Lib.hid (show hexV b = (n : Int) - 87 by rw [HX.out, if_neg (by omega), if_pos hc])
    clear hc hb
    go_enter Tryz.func116, Tryz.ntmps116
    go_wp2_with fail
    go_ret
    exact ⟨ret_int (by rw [HY.out]; omega), rfl⟩
  · have HY := Lib.hid (show hexV b = -1 by rw [HX.out, if_neg hc.1, if_neg hc.2])
    have HC := Lib.hid hc
    have HB := Lib.hid hb
    have h1 : (48 : Int) ≤ n ∨ ¬ (48 : Int) ≤ n := by omega
    clear hc hb
    go_enter Tryz.func116, Tryz.ntmps116
    go_wp2_with fail
    all_goals first | (exfalso; have := HC.out; have := HB.out; simp at *; omega) | (go_ret; exact ⟨ret_int (by rw [HY.out]), rfl⟩)
theorem own_empty {w : World} {b B : Nat} (h : w.heap[b]? = some (.cells #[] 67 (0, 0))) (hB : B ≤ b) : w.ownsRow B 67 21 (.slice (some ⟨b, 0, none⟩) 0 0) 0 [] :=
  ⟨rfl, .inr ⟨b, 0, #[], rfl, hB, h, Nat.le_refl _, by simp [maxLen], rfl, rfl⟩⟩
theorem choose_list {p : Nat → Value → Prop} : ∀ (n : Nat), (∀ i, i < n → ∃ u, p i u) → ∃ us : List Value, us.length = n ∧ ∀ (i : Nat) u, us[i]? = some u → p i u
  | 0, _ => ⟨[], rfl, fun i u h => by simp at h⟩
  | n + 1, h => by
    obtain ⟨us, hl, hp⟩ := choose_list n fun i hi => h i (by omega)
    obtain ⟨u, hu⟩ := h n (by omega)
    refine ⟨us ++ [u], by simp [hl], fun i v hv => ?_⟩
    by_cases hi : i < n
    · rw [List.getElem?_append_left (by omega)] at hv
      exact hp i v hv
    · have : i = n := by have := (List.getElem?_eq_some_iff.1 hv).1; simp at this; omega
      subst this
      rw [List.getElem?_append_right (by omega), hl] at hv
      simp at hv
      rw [← hv]; exact hu
theorem ndFlat_get : ∀ (o : List Po.Nd) (vs : List Value) (j : Nat) (z : Value), vs.length = o.length → (∀ y ∈ o, y.dg.length = 16) → (ndFlat o vs)[j]? = some z → ∃ (i q : Nat) (x : Po.Nd) (u : Value), j = i * 21 + q ∧ o[i]? = some x ∧ vs[i]? = some u ∧ (ndVals x u)[q]? = some z
  | [], [], j, z, _, _, h => by simp [ndFlat] at h
  | [], _ :: _, _, _, h, _, _ => by simp at h
  | _ :: _, [], _, _, h, _, _ => by simp at h
  | y :: o, v :: vs, j, z, hl, hd, h => by
    have hy : (ndVals y v).length = 21 := ndVals_len (hd y (by simp))
    simp only [ndFlat] at h
    by_cases hj : j < 21
    · rw [List.getElem?_append_left (by omega)] at h
      exact ⟨0, j, y, v, by omega, rfl, rfl, h⟩
    · rw [List.getElem?_append_right (by omega), hy] at h
      obtain ⟨i, q, x, u, h1, h2, h3, h4⟩ := ndFlat_get o vs (j - 21) z (by simpa using hl) (fun y hy => hd y (by simp [hy])) h
      exact ⟨i + 1, q, x, u, by omega, by simpa using h2, by simpa using h3, h4⟩
theorem ndFlat_len : ∀ (o : List Po.Nd) (vs : List Value), vs.length = o.length → (∀ y ∈ o, y.dg.length = 16) → (ndFlat o vs).length = o.length * 21
  | [], [], _, _ => rfl
  | [], _ :: _, h, _ => by simp at h
  | _ :: _, [], h, _ => by simp at h
  | y :: o, v :: vs, hl, hd => by
    have hy : (ndVals y v).length = 21 := ndVals_len (hd y (by simp))
    have := ndFlat_len o vs (by simpa using hl) (fun y hy => hd y (by simp [hy]))
    simp only [ndFlat, List.length_append, List.length_cons, hy, this]
    omega
theorem ndFlat_one {o : List Po.Nd} {vs : List Value} (hl : vs.length = o.length) (hd : ∀ y ∈ o, y.dg.length = 16) (hv : ∀ (i : Nat) u, vs[i]? = some u → u.oneCell' = true) : ∀ z ∈ ndFlat o vs, z.oneCell' = true := by
  intro z hz
  obtain ⟨j, hj, rfl⟩ := List.getElem_of_mem hz
  obtain ⟨i, q, x, u, -, -, h3, h4⟩ := ndFlat_get o vs j _ hl hd (List.getElem?_eq_getElem hj)
  have h := nd_one (x := x) (hv i u h3)
  rw [Array.all_eq_true_iff_forall_mem] at h
  exact h _ (by have := List.mem_of_getElem? h4; simpa using this)
/-- the cells of a slice of nodes, as one list -/
theorem RNds.flat {w : World} {L B : Nat} {A : Option Addr} {n c : Nat} {o : List Po.Nd} (h : RNds w L B (.slice A n c) o) (h0 : 0 < o.length) (hd : ∀ y ∈ o, y.dg.length = 16) :
    ∃ b off us, A = some ⟨b, off, none⟩ ∧ b < B ∧ us.length = o.length ∧ (∀ (j : Nat) (z : Value), (ndFlat o us)[j]? = some z → w.cell? ⟨b, off + j, none⟩ = some z) ∧ ∀ (i : Nat) (x : Po.Nd) (u : Value), o[i]? = some x → us[i]? = some u → OfAt w L B u x.of := by
  obtain ⟨A', c', h1, h2, h3, h4⟩ := h
  cases h1
  obtain ⟨b, off, hA, -, hlt, hc⟩ := h4 h0
  obtain ⟨us, hl, hu⟩ := choose_list (p := fun i u => ∀ x, o[i]? = some x → (∀ (j : Nat) (z : Value), (ndVals x u)[j]? = some z → w.cell? ⟨b, off + i * 21 + j, none⟩ = some z) ∧ OfAt w L B u x.of) o.length (fun i hi => by
    obtain ⟨u, h5, h6⟩ := hc i _ (List.getElem?_eq_getElem hi)
    refine ⟨u, fun x hx => ?_⟩
    rw [List.getElem?_eq_getElem hi] at hx
    simp only [Option.some.injEq] at hx
    subst hx
    exact ⟨h5, h6⟩)
  refine ⟨b, off, us, hA, hlt, hl, fun j z hz => ?_, fun i x u hx hy => (hu i u hy x hx).2⟩
  obtain ⟨i, q, x, u, rfl, h5, h6, h7⟩ := ndFlat_get o us j z hl hd hz
  rw [← Nat.add_assoc]
  exact (hu i u h6 x h5).1 q z h7
theorem rnds_of_own {w : World} {vo : Value} {o : List Po.Nd} {ofs : List Value} {B0 : Nat} (h : w.ownsRow B0 67 21 vo o.length (ndFlat o ofs)) (hn : 0 < o.length) (hl : ofs.length = o.length) (hof : ∀ (i : Nat) (x : Po.Nd) (u : Value), o[i]? = some x → ofs[i]? = some u → OfAt w 0 w.heap.size u x.of) (hdg : ∀ y ∈ o, y.dg.length = 16) : RNds w 0 w.heap.size vo o := by
  obtain ⟨g, cap, hv, hg, hlt, hc, hm, hx⟩ := own_cells h hn
  refine ⟨some ⟨g, 0, none⟩, cap, hv, hc, hm, fun _ => ⟨g, 0, rfl, Nat.zero_le _, hlt, fun i x hi => ?_⟩⟩
  have hil : i < o.length := (List.getElem?_eq_some_iff.1 hi).1
  obtain ⟨u, hu⟩ : ∃ u, ofs[i]? = some u := ⟨_, List.getElem?_eq_getElem (by rw [hl]; exact hil)⟩
  refine ⟨u, fun j z hz => ?_, hof i x u hi hu⟩
  rw [Nat.zero_add]
  exact hx _ _ (ndFlat_at o ofs i x u j z hdg hi hu hz)
theorem three_new3 {w : World} {o1 o2 o3 : Obj} : ∀ W, ((w.alloc o1).alloc o2).alloc o3 = W → W.heap[w.heap.size]? = some o1 ∧ W.heap[w.heap.size + 1]? = some o2 ∧ W.heap[w.heap.size + 1 + 1]? = some o3 ∧ Below w.heap.size w W ∧ W.heap.size = w.heap.size + 3 := by
  rintro W rfl
  obtain ⟨h1, h2, h3⟩ := three_new _ (rfl : ((w.alloc o1).alloc o2).alloc o3 = _)
  exact ⟨h1, h2, h3, (((Below.refl _ _).alloc (Nat.le_refl _) _).alloc (by simp) _).alloc (by simp; omega) _, by simp⟩
/-- what with answers -/
def WithSays (vl : Value) (k : Int) (o : List Po.Nd) (w : World) (e : Ending) (w' : World) : Prop :=
  ∃ g cap, e = .returned (.agg #[vl, .int .i64 k, .slice (some ⟨g, 0, none⟩) o.length cap]) ∧ RNds w' 0 w'.heap.size (.slice (some ⟨g, 0, none⟩) o.length cap) o ∧ Below w.heap.size w w'
theorem with_done {w w2 W' : World} {vl : Value} {k : Int} {o : List Po.Nd} {x : Po.Nd} {u : Value} {us : List Value} {B0 g cap n : Nat} (hd : ∀ y ∈ o, y.dg.length = 16) (hx : x.dg.length = 16) (hl : us.length = o.length) (hof : ∀ (i : Nat) (y : Po.Nd) (v : Value), o[i]? = some y → us[i]? = some v → OfAt w 0 w.heap.size v y.of) (hu : OfAt w 0 w.heap.size u x.of) (hn : o.length = n)
    (hown : w2.ownsRow B0 67 21 (.slice (some ⟨g, 0, none⟩) (n + 1) cap) (n + 1) (ndFlat o us ++ ndVals x u)) (hg : W'.heap[g]? = w2.heap[g]?) (hB : Below w.heap.size w W') :
    WithSays vl k (o ++ [x]) w (.returned (.agg #[vl, .int .i64 k, .slice (some ⟨g, 0, none⟩) (n + 1) cap])) W' := by
  subst hn
  have hlen : (o ++ [x]).length = o.length + 1 := by simp
  refine ⟨g, cap, by rw [hlen], ?_, hB⟩
  rw [← ndFlat_snoc _ _ _ _ hl, ← hlen] at hown
  have hw : W'.ownsRow B0 67 21 (.slice (some ⟨g, 0, none⟩) (o ++ [x]).length cap) (o ++ [x]).length (ndFlat (o ++ [x]) (us ++ [u])) := own_frame hown fun k hk => by
    simp only [Value.ownBlock, Option.some.injEq] at hk
    rw [← hk]; exact hg
  refine rnds_of_own hw (by rw [hlen]; omega) (by simp [hl]) (fun i y v hy hv => ?_) (fun y hy => ?_)
  · have hf : ∀ (v : Value) (xs : List Nat), OfAt w 0 w.heap.size v xs → OfAt W' 0 W'.heap.size v xs := fun v xs h => (h.frame fun j _ hj => hB.block j hj).more (Nat.le_refl _) hB.size
    by_cases hi : i < o.length
    · rw [List.getElem?_append_left hi] at hy
      rw [List.getElem?_append_left (by rw [hl]; exact hi)] at hv
      exact hf _ _ (hof i y v hy hv)
    · have hi2 : i = o.length := by
        have := (List.getElem?_eq_some_iff.1 hy).1
        simp at this
        omega
      subst hi2
      rw [List.getElem?_append_right (Nat.le_refl _)] at hy
      rw [← hl, List.getElem?_append_right (Nat.le_refl _)] at hv
      simp at hy hv
      subst hy; subst hv
      exact hf _ _ hu
  · rcases List.mem_append.1 hy with h | h
    · exact hd y h
    · simp only [List.mem_singleton] at h; rw [h]; exact hx
theorem set_third {w : World} {p : Nat} {a b c v : Value} {t : TypeId} (h : w.heap[p]? = some (.cells #[a, b, c] t (0, 0))) : (w.setCell ⟨p, 2, none⟩ v).heap[p]? = some (.cells #[a, b, v] t (0, 0)) := by
  simp only [World.setCell, Array.getElem?_modify, h]
  simp
theorem put3 (W : World) (p : Nat) (a b c : Value) : ((W.setCell ⟨p, 0, none⟩ a).setCell ⟨p, 1, none⟩ b).setCell ⟨p, 2, none⟩ c = putRow W p #[a, b, c] := by
  simp only [putRow, World.setCells]
theorem results_at {fn : Func} {t : Tmp} (h : fn.results = #[.cell t 57]) {tmps : Array Value} {r : Nat} (ht : tmps[t]?.getD undef = .pointer (some ⟨r, 0, none⟩)) {w : World} {cs : Array Value} (hc : w.heap[r]? = some (.cells cs 57 (0, 0))) (hs : cs.size = 3) :
    (results fn tmps).run Tryz.prog w = .ok (.agg cs) w := by
  simp [results, h, ht, asAddr, loadVar_row hc row_at (by rw [hs]; exact size_at)]
set_option maxRecDepth 1000000 in
set_option maxHeartbeats 4000000 in
theorem rf_with1 {A1 A : Option Addr} {n1 c1 c : Nat} {k : Int} {o : List Po.Nd} (x : Po.Nd) (u : Value) (w : World) (hn : RNds w 0 w.heap.size (.slice A o.length c) o) (hd : Po.Dg16 o) (hx : x.dg.length = 16) (hu : OfAt w 0 w.heap.size u x.of) (ho : o.length ≤ 100000) (h0 : 0 < o.length) :
    Calls Tryz.prog 56 #[.agg #[.slice A1 n1 c1, .int .i64 k, .slice A o.length c], .agg (ndVals x u).toArray] w (WithSays (.slice A1 n1 c1) k (o ++ [x]) w) := by
  have hi0 : (Tryz.prog.info? 67).map (fun i => (i.zero, i.size, i.bytes)) = some (some (.agg nd0), 21, 72) := by kernel_rfl
  obtain ⟨i0, hi, hxx⟩ := Option.map_eq_some_iff.1 hi0
  simp only [Prod.mk.injEq] at hxx
  obtain ⟨hz0, hz1, hz2⟩ := hxx
  clear hi0
  have hone : (ndVals x u).toArray.all (·.oneCell') = true := nd_one hu.one'
  have HX := Lib.hid (And.intro hx hu)
  obtain ⟨xk, xn, xm, xs, xd, xo⟩ := x
  obtain ⟨a0, a1, a2, a3, a4, a5, a6, a7, a8, a9, b0, b1, b2, b3, b4, b5, hdd⟩ := sixteen hx
  simp only at hdd
  subst hdd
  obtain ⟨S, hS⟩ : ∃ S, WithSays (.slice A1 n1 c1) k (o ++ [⟨xk, xn, xm, xs, [a0, a1, a2, a3, a4, a5, a6, a7, a8, a9, b0, b1, b2, b3, b4, b5], xo⟩]) w = S := ⟨_, rfl⟩
  rw [hS]
  have hcs : (ndVals ⟨xk, xn, xm, xs, [a0, a1, a2, a3, a4, a5, a6, a7, a8, a9, b0, b1, b2, b3, b4, b5], xo⟩ u).toArray = #[.int .i64 xk, .int .i64 xn, .int .i64 xm, .int .i64 xs, .int .u8 (a0 : Nat), .int .u8 (a1 : Nat), .int .u8 (a2 : Nat), .int .u8 (a3 : Nat), .int .u8 (a4 : Nat), .int .u8 (a5 : Nat), .int .u8 (a6 : Nat), .int .u8 (a7 : Nat), .int .u8 (a8 : Nat), .int .u8 (a9 : Nat), .int .u8 (b0 : Nat), .int .u8 (b1 : Nat), .int .u8 (b2 : Nat), .int .u8 (b3 : Nat), .int .u8 (b4 : Nat), .int .u8 (b5 : Nat), u] := rfl
  rw [hcs] at hone ⊢
  obtain ⟨bb, off, us, rfl, hbb, hul, hfl, hof⟩ := hn.flat h0 hd
  obtain ⟨FL, hFL⟩ : ∃ FL, ndFlat o us = FL := ⟨_, rfl⟩
  have hFn := ndFlat_len o us hul hd
  have hF1 := ndFlat_one hul hd (fun i v hv => (hof i _ v (List.getElem?_eq_getElem (by have := (List.getElem?_eq_some_iff.1 hv).1; omega)) hv).one')
  rw [hFL] at hfl hFn hF1
  obtain ⟨n, hn0⟩ : ∃ n, o.length = n := ⟨_, rfl⟩
  rw [hn0] at hFn ⊢
  obtain ⟨T, N, R, K, L⟩ := letters
  obtain ⟨W, hW⟩ : ∃ W, ((w.alloc (.cells #[.slice A1 n1 c1, .int .i64 k, .slice (some ⟨bb, off, none⟩) n c] 57)).alloc (.cells #[.int .i64 xk, .int .i64 xn, .int .i64 xm, .int .i64 xs, .int .u8 (a0 : Nat), .int .u8 (a1 : Nat), .int .u8 (a2 : Nat), .int .u8 (a3 : Nat), .int .u8 (a4 : Nat), .int .u8 (a5 : Nat), .int .u8 (a6 : Nat), .int .u8 (a7 : Nat), .int .u8 (a8 : Nat), .int .u8 (a9 : Nat), .int .u8 (b0 : Nat), .int .u8 (b1 : Nat), .int .u8 (b2 : Nat), .int .u8 (b3 : Nat), .int .u8 (b4 : Nat), .int .u8 (b5 : Nat), u] 67)).alloc (.cells #[.slice none 0 0, .int .i64 0, .slice none 0 0] 57) = W := ⟨_, rfl⟩
  obtain ⟨w0, w1, w2, hbW, hsW⟩ := three_new3 W hW
  obtain ⟨c0, c1', c2, cz⟩ := three_cells w0
  have HEND : Hid (∀ (w2 W' : World) (g cap : Nat), w2.ownsRow W.heap.size 67 21 (.slice (some ⟨g, 0, none⟩) (n + 1) cap) (n + 1) (FL ++ [.int .i64 xk, .int .i64 xn, .int .i64 xm, .int .i64 xs, .int .u8 (a0 : Nat), .int .u8 (a1 : Nat), .int .u8 (a2 : Nat), .int .u8 (a3 : Nat), .int .u8 (a4 : Nat), .int .u8 (a5 : Nat), .int .u8 (a6 : Nat), .int .u8 (a7 : Nat), .int .u8 (a8 : Nat), .int .u8 (a9 : Nat), .int .u8 (b0 : Nat), .int .u8 (b1 : Nat), .int .u8 (b2 : Nat), .int .u8 (b3 : Nat), .int .u8 (b4 : Nat), .int .u8 (b5 : Nat), u]) → W'.heap[g]? = w2.heap[g]? → Below w.heap.size w W' → S (.returned (.agg #[.slice A1 n1 c1, .int .i64 k, .slice (some ⟨g, 0, none⟩) (n + 1) cap])) W') := Lib.hid fun w2 W' g cap h1 h2 h3 => by
    rw [← hS]
    rw [← hFL] at h1
    exact with_done hd HX.out.1 hul hof HX.out.2 hn0 h1 h2 h3
  have HLD : Hid (∀ W', W'.heap[w.heap.size + 1]? = W.heap[w.heap.size + 1]? → Sem.run Tryz.prog (loadCellsFrom ⟨w.heap.size + 1, 0, none⟩ 0 N #[]) W' = .ok #[.int .i64 xk, .int .i64 xn, .int .i64 xm, .int .i64 xs, .int .u8 (a0 : Nat), .int .u8 (a1 : Nat), .int .u8 (a2 : Nat), .int .u8 (a3 : Nat), .int .u8 (a4 : Nat), .int .u8 (a5 : Nat), .int .u8 (a6 : Nat), .int .u8 (a7 : Nat), .int .u8 (a8 : Nat), .int .u8 (a9 : Nat), .int .u8 (b0 : Nat), .int .u8 (b1 : Nat), .int .u8 (b2 : Nat), .int .u8 (b3 : Nat), .int .u8 (b4 : Nat), .int .u8 (b5 : Nat), u] W') := Lib.hid fun W' h => L.ld (b := w.heap.size + 1) (t := 67) (h.trans w1) rfl
  have h1w : w.heap.size + 1 < W.heap.size := by omega
  -- the worlds of the three orders
  have kD : W.drew.heap[w.heap.size + 1]? = W.heap[w.heap.size + 1]? := rfl
  have UE : Below W.heap.size W (W.alloc (.cells #[] 67)).drew := ((Below.refl _ _).alloc (Nat.le_refl _) _).drew
  have UEX : Below W.heap.size W ((W.alloc (.cells #[] 67)).alloc (.cells #[.int .i64 xk, .int .i64 xn, .int .i64 xm, .int .i64 xs, .int .u8 (a0 : Nat), .int .u8 (a1 : Nat), .int .u8 (a2 : Nat), .int .u8 (a3 : Nat), .int .u8 (a4 : Nat), .int .u8 (a5 : Nat), .int .u8 (a6 : Nat), .int .u8 (a7 : Nat), .int .u8 (a8 : Nat), .int .u8 (a9 : Nat), .int .u8 (b0 : Nat), .int .u8 (b1 : Nat), .int .u8 (b2 : Nat), .int .u8 (b3 : Nat), .int .u8 (b4 : Nat), .int .u8 (b5 : Nat), u] 67)).drew := (((Below.refl _ _).alloc (Nat.le_refl _) _).alloc (by simp) _).drew
  have UXE : Below W.heap.size W ((W.alloc (.cells #[.int .i64 xk, .int .i64 xn, .int .i64 xm, .int .i64 xs, .int .u8 (a0 : Nat), .int .u8 (a1 : Nat), .int .u8 (a2 : Nat), .int .u8 (a3 : Nat), .int .u8 (a4 : Nat), .int .u8 (a5 : Nat), .int .u8 (a6 : Nat), .int .u8 (a7 : Nat), .int .u8 (a8 : Nat), .int .u8 (a9 : Nat), .int .u8 (b0 : Nat), .int .u8 (b1 : Nat), .int .u8 (b2 : Nat), .int .u8 (b3 : Nat), .int .u8 (b4 : Nat), .int .u8 (b5 : Nat), u] 67)).alloc (.cells #[] 67)).drew := (((Below.refl _ _).alloc (Nat.le_refl _) _).alloc (by simp) _).drew
  have kE := UE.block _ h1w
  have eE' : (W.alloc (.cells #[] 67)).heap[W.heap.size]? = some (.cells #[] 67 (0, 0)) := heap_alloc_new W _
  have eE : (W.alloc (.cells #[] 67)).drew.heap[W.heap.size]? = some (.cells #[] 67 (0, 0)) := eE'
  have eEX : ((W.alloc (.cells #[] 67)).alloc (.cells #[.int .i64 xk, .int .i64 xn, .int .i64 xm, .int .i64 xs, .int .u8 (a0 : Nat), .int .u8 (a1 : Nat), .int .u8 (a2 : Nat), .int .u8 (a3 : Nat), .int .u8 (a4 : Nat), .int .u8 (a5 : Nat), .int .u8 (a6 : Nat), .int .u8 (a7 : Nat), .int .u8 (a8 : Nat), .int .u8 (a9 : Nat), .int .u8 (b0 : Nat), .int .u8 (b1 : Nat), .int .u8 (b2 : Nat), .int .u8 (b3 : Nat), .int .u8 (b4 : Nat), .int .u8 (b5 : Nat), u] 67)).drew.heap[W.heap.size]? = some (.cells #[] 67 (0, 0)) := (Below.heap_alloc _ _ _ (by simp)).trans eE'
  have eXE : ((W.alloc (.cells #[.int .i64 xk, .int .i64 xn, .int .i64 xm, .int .i64 xs, .int .u8 (a0 : Nat), .int .u8 (a1 : Nat), .int .u8 (a2 : Nat), .int .u8 (a3 : Nat), .int .u8 (a4 : Nat), .int .u8 (a5 : Nat), .int .u8 (a6 : Nat), .int .u8 (a7 : Nat), .int .u8 (a8 : Nat), .int .u8 (a9 : Nat), .int .u8 (b0 : Nat), .int .u8 (b1 : Nat), .int .u8 (b2 : Nat), .int .u8 (b3 : Nat), .int .u8 (b4 : Nat), .int .u8 (b5 : Nat), u] 67)).alloc (.cells #[] 67)).drew.heap[W.heap.size + 1]? = some (.cells #[] 67 (0, 0)) := by
    have e := heap_alloc_new (W.alloc (.cells #[.int .i64 xk, .int .i64 xn, .int .i64 xm, .int .i64 xs, .int .u8 (a0 : Nat), .int .u8 (a1 : Nat), .int .u8 (a2 : Nat), .int .u8 (a3 : Nat), .int .u8 (a4 : Nat), .int .u8 (a5 : Nat), .int .u8 (a6 : Nat), .int .u8 (a7 : Nat), .int .u8 (a8 : Nat), .int .u8 (a9 : Nat), .int .u8 (b0 : Nat), .int .u8 (b1 : Nat), .int .u8 (b2 : Nat), .int .u8 (b3 : Nat), .int .u8 (b4 : Nat), .int .u8 (b5 : Nat), u] 67)) (.cells #[] 67)
    rw [World.size_alloc] at e
    exact e
  have xEX : ((W.alloc (.cells #[] 67)).alloc (.cells #[.int .i64 xk, .int .i64 xn, .int .i64 xm, .int .i64 xs, .int .u8 (a0 : Nat), .int .u8 (a1 : Nat), .int .u8 (a2 : Nat), .int .u8 (a3 : Nat), .int .u8 (a4 : Nat), .int .u8 (a5 : Nat), .int .u8 (a6 : Nat), .int .u8 (a7 : Nat), .int .u8 (a8 : Nat), .int .u8 (a9 : Nat), .int .u8 (b0 : Nat), .int .u8 (b1 : Nat), .int .u8 (b2 : Nat), .int .u8 (b3 : Nat), .int .u8 (b4 : Nat), .int .u8 (b5 : Nat), u] 67)).drew.heap[W.heap.size + 1]? = some (.cells #[.int .i64 xk, .int .i64 xn, .int .i64 xm, .int .i64 xs, .int .u8 (a0 : Nat), .int .u8 (a1 : Nat), .int .u8 (a2 : Nat), .int .u8 (a3 : Nat), .int .u8 (a4 : Nat), .int .u8 (a5 : Nat), .int .u8 (a6 : Nat), .int .u8 (a7 : Nat), .int .u8 (a8 : Nat), .int .u8 (a9 : Nat), .int .u8 (b0 : Nat), .int .u8 (b1 : Nat), .int .u8 (b2 : Nat), .int .u8 (b3 : Nat), .int .u8 (b4 : Nat), .int .u8 (b5 : Nat), u] 67 (0, 0)) := by
    have e := heap_alloc_new (W.alloc (.cells #[] 67)) (.cells #[.int .i64 xk, .int .i64 xn, .int .i64 xm, .int .i64 xs, .int .u8 (a0 : Nat), .int .u8 (a1 : Nat), .int .u8 (a2 : Nat), .int .u8 (a3 : Nat), .int .u8 (a4 : Nat), .int .u8 (a5 : Nat), .int .u8 (a6 : Nat), .int .u8 (a7 : Nat), .int .u8 (a8 : Nat), .int .u8 (a9 : Nat), .int .u8 (b0 : Nat), .int .u8 (b1 : Nat), .int .u8 (b2 : Nat), .int .u8 (b3 : Nat), .int .u8 (b4 : Nat), .int .u8 (b5 : Nat), u] 67)
    rw [World.size_alloc] at e
    exact e
  have xXE : ((W.alloc (.cells #[.int .i64 xk, .int .i64 xn, .int .i64 xm, .int .i64 xs, .int .u8 (a0 : Nat), .int .u8 (a1 : Nat), .int .u8 (a2 : Nat), .int .u8 (a3 : Nat), .int .u8 (a4 : Nat), .int .u8 (a5 : Nat), .int .u8 (a6 : Nat), .int .u8 (a7 : Nat), .int .u8 (a8 : Nat), .int .u8 (a9 : Nat), .int .u8 (b0 : Nat), .int .u8 (b1 : Nat), .int .u8 (b2 : Nat), .int .u8 (b3 : Nat), .int .u8 (b4 : Nat), .int .u8 (b5 : Nat), u] 67)).alloc (.cells #[] 67)).drew.heap[W.heap.size]? = some (.cells #[.int .i64 xk, .int .i64 xn, .int .i64 xm, .int .i64 xs, .int .u8 (a0 : Nat), .int .u8 (a1 : Nat), .int .u8 (a2 : Nat), .int .u8 (a3 : Nat), .int .u8 (a4 : Nat), .int .u8 (a5 : Nat), .int .u8 (a6 : Nat), .int .u8 (a7 : Nat), .int .u8 (a8 : Nat), .int .u8 (a9 : Nat), .int .u8 (b0 : Nat), .int .u8 (b1 : Nat), .int .u8 (b2 : Nat), .int .u8 (b3 : Nat), .int .u8 (b4 : Nat), .int .u8 (b5 : Nat), u] 67 (0, 0)) := (Below.heap_alloc _ _ _ (by simp)).trans (heap_alloc_new W _)
  have hcell : ∀ W', Below W.heap.size W W' → ∀ (j : Nat) (z : Value), FL[j]? = some z → W'.cell? ((⟨bb, off, none⟩ : Addr).add j) = some z := fun W' h j z hz => by
    rw [Addr.add_mid]
    exact (h.cell (p := ⟨bb, off + j, none⟩) (show bb < W.heap.size by omega)).trans ((hbW.cell (p := ⟨bb, off + j, none⟩) hbb).trans (hfl j z hz))
  have HOA := Lib.hid (own_empty (B := W.heap.size) eE (Nat.le_refl _))
  have HOB := Lib.hid (own_empty (B := W.heap.size) eEX (Nat.le_refl _))
  have HOC := Lib.hid (own_empty (B := W.heap.size) eXE (Nat.le_succ _))
  have HNA := Lib.hid (hcell _ UE)
  have HNB := Lib.hid (hcell _ UEX)
  have HNC := Lib.hid (hcell _ UXE)
  have HXB := Lib.hid (And.intro UEX xEX)
  have HXC := Lib.hid (And.intro UXE xXE)
  have HXA := Lib.hid UE
  have HKD := Lib.hid (HLD.out _ kD)
  have HKE := Lib.hid (HLD.out _ kE)
  have HFN := Lib.hid (And.intro hFn hF1)
  have HPOS := Lib.hid (show 0 < n by omega)
  have HL1 := Lib.hid (show 0 + n ≤ maxLen by unfold maxLen; omega)
  have HL2 := Lib.hid (show (0 + n) * 72 ≤ 140737488355328 by omega)
  have HL3 := Lib.hid (show n + 1 ≤ maxLen by unfold maxLen; omega)
  have HL4 := Lib.hid (show (n + 1) * 72 ≤ 140737488355328 by omega)
  have HONE := Lib.hid (show ∀ v ∈ ([.int .i64 xk, .int .i64 xn, .int .i64 xm, .int .i64 xs, .int .u8 (a0 : Nat), .int .u8 (a1 : Nat), .int .u8 (a2 : Nat), .int .u8 (a3 : Nat), .int .u8 (a4 : Nat), .int .u8 (a5 : Nat), .int .u8 (a6 : Nat), .int .u8 (a7 : Nat), .int .u8 (a8 : Nat), .int .u8 (a9 : Nat), .int .u8 (b0 : Nat), .int .u8 (b1 : Nat), .int .u8 (b2 : Nat), .int .u8 (b3 : Nat), .int .u8 (b4 : Nat), .int .u8 (b5 : Nat), u] : List Value), v.oneCell' = true from fun v hv => (Array.all_eq_true_iff_forall_mem.1 hone) v (by simpa using hv))
  have HBW := Lib.hid (And.intro hbW (And.intro hsW (And.intro w0 (And.intro w2 h1w))))
  have HSA := Lib.hid (And.intro UE.size (And.intro UEX.size UXE.size))
  have HSB : Hid (W.heap.size + 1 < ((W.alloc (.cells #[] 67)).alloc (.cells #[.int .i64 xk, .int .i64 xn, .int .i64 xm, .int .i64 xs, .int .u8 (a0 : Nat), .int .u8 (a1 : Nat), .int .u8 (a2 : Nat), .int .u8 (a3 : Nat), .int .u8 (a4 : Nat), .int .u8 (a5 : Nat), .int .u8 (a6 : Nat), .int .u8 (a7 : Nat), .int .u8 (a8 : Nat), .int .u8 (a9 : Nat), .int .u8 (b0 : Nat), .int .u8 (b1 : Nat), .int .u8 (b2 : Nat), .int .u8 (b3 : Nat), .int .u8 (b4 : Nat), .int .u8 (b5 : Nat), u] 67)).drew.heap.size ∧ some (W.heap.size + 1) ≠ (Value.slice (some ⟨W.heap.size, 0, none⟩) 0 0).ownBlock ∧ W.heap.size < ((W.alloc (.cells #[.int .i64 xk, .int .i64 xn, .int .i64 xm, .int .i64 xs, .int .u8 (a0 : Nat), .int .u8 (a1 : Nat), .int .u8 (a2 : Nat), .int .u8 (a3 : Nat), .int .u8 (a4 : Nat), .int .u8 (a5 : Nat), .int .u8 (a6 : Nat), .int .u8 (a7 : Nat), .int .u8 (a8 : Nat), .int .u8 (a9 : Nat), .int .u8 (b0 : Nat), .int .u8 (b1 : Nat), .int .u8 (b2 : Nat), .int .u8 (b3 : Nat), .int .u8 (b4 : Nat), .int .u8 (b5 : Nat), u] 67)).alloc (.cells #[] 67)).drew.heap.size ∧ some W.heap.size ≠ (Value.slice (some ⟨W.heap.size + 1, 0, none⟩) 0 0).ownBlock) := Lib.hid (by
    refine ⟨by simp [World.drew], fun h => ?_, by simp [World.drew]; omega, fun h => ?_⟩
    · have := Option.some.inj h; simp at this
    · have := Option.some.inj h; simp at this)
  have HCC := Lib.hid (And.intro c0 (And.intro c1' (And.intro c2 cz)))
  have hKD := HKD.out
  have hKE := HKE.out
  have h0w : w.heap.size < W.heap.size := by omega
  clear hn hd hx hu ho h0 hS hcs hbb hul hfl hof hFL hFn hF1 hn0 hone w0 w1 w2 hbW hsW kD UE UEX UXE kE eE' eE eEX eXE xEX xXE hcell
  go_enter Tryz.func56, Tryz.ntmps56
  simp only [L.load]
  have la := L.agg
  have lz := L.size
  clear L
  go_upto_region 1 with fail
  clear hW
  go_region_law
    (first
      | (refine step_append_lies _ rfl (.tmp 8) (.tmp 10) 23 rfl W.heap.size 67 i0 _ 21 72 Tryz.underlying23 hi hz0 hz1 hz2 rfl (by decide) _ n FL rfl HO2.out _ 1 1 [.int .i64 xk, .int .i64 xn, .int .i64 xm, .int .i64 xs, .int .u8 (a0 : Nat), .int .u8 (a1 : Nat), .int .u8 (a2 : Nat), .int .u8 (a3 : Nat), .int .u8 (a4 : Nat), .int .u8 (a5 : Nat), .int .u8 (a6 : Nat), .int .u8 (a7 : Nat), .int .u8 (a8 : Nat), .int .u8 (a9 : Nat), .int .u8 (b0 : Nat), .int .u8 (b1 : Nat), .int .u8 (b2 : Nat), .int .u8 (b3 : Nat), .int .u8 (b4 : Nat), .int .u8 (b5 : Nat), u] rfl rfl HNW.out HONE.out (by decide) HL3.out HL4.out HBA2.out _ rfl ?_
         intro g2 cap2 w4 hown4 hgrow4 hat4 hlt4
         have hu4 := HU2.out.grown hgrow4 (HBA2.out) (fun j hj => (HO2.out.lt j hj).1)
         have e2 := (hu4.cell (p := ⟨w.heap.size, 2, none⟩) (by have := HBW.out.2.1; simp; omega)).trans HCC.out.2.2.1
         have e3 := (hu4.frozen (p := ⟨w.heap.size, 2, none⟩) (by have := HBW.out.2.1; simp; omega)).trans (HCC.out.2.2.2 2)
         have HU4 := Lib.hid hu4
         have HO4 := Lib.hid (And.intro hown4 hlt4)
         clear hown4 hgrow4 hat4 hlt4 hu4)
      | (refine step_append_lies _ rfl (.tmp 5) (.tmp 7) 23 rfl W.heap.size 67 i0 _ 21 72 Tryz.underlying23 hi hz0 hz1 hz2 rfl (by decide) _ 0 [] rfl HOA.out ⟨bb, off, none⟩ n c FL rfl HFN.out.1 HNA.out HFN.out.2 HPOS.out HL1.out HL2.out HSA.out.1 _ rfl ?_
         intro g cap w3 hown3 hgrow3 hat3 hlt3
         simp only [Nat.zero_add, List.nil_append] at hown3
         simp only [Nat.zero_add]
         have hu3 := HXA.out.grown hgrow3 HSA.out.1 (fun j hj => (HOA.out.lt j hj).1)
         have hk1 := HLD.out _ (hu3.block _ HBW.out.2.2.2.2)
         have HU2 := Lib.hid (hu3.alloc hu3.size (.cells #[.int .i64 xk, .int .i64 xn, .int .i64 xm, .int .i64 xs, .int .u8 (a0 : Nat), .int .u8 (a1 : Nat), .int .u8 (a2 : Nat), .int .u8 (a3 : Nat), .int .u8 (a4 : Nat), .int .u8 (a5 : Nat), .int .u8 (a6 : Nat), .int .u8 (a7 : Nat), .int .u8 (a8 : Nat), .int .u8 (a9 : Nat), .int .u8 (b0 : Nat), .int .u8 (b1 : Nat), .int .u8 (b2 : Nat), .int .u8 (b3 : Nat), .int .u8 (b4 : Nat), .int .u8 (b5 : Nat), u] 67))
         have HBA2 := Lib.hid HU2.out.size
         have HO2 := Lib.hid (hown3.alloc (.cells #[.int .i64 xk, .int .i64 xn, .int .i64 xm, .int .i64 xs, .int .u8 (a0 : Nat), .int .u8 (a1 : Nat), .int .u8 (a2 : Nat), .int .u8 (a3 : Nat), .int .u8 (a4 : Nat), .int .u8 (a5 : Nat), .int .u8 (a6 : Nat), .int .u8 (a7 : Nat), .int .u8 (a8 : Nat), .int .u8 (a9 : Nat), .int .u8 (b0 : Nat), .int .u8 (b1 : Nat), .int .u8 (b2 : Nat), .int .u8 (b3 : Nat), .int .u8 (b4 : Nat), .int .u8 (b5 : Nat), u] 67))
         have HNW := Lib.hid (World.news_of_block (heap_alloc_new w3 (.cells #[.int .i64 xk, .int .i64 xn, .int .i64 xm, .int .i64 xs, .int .u8 (a0 : Nat), .int .u8 (a1 : Nat), .int .u8 (a2 : Nat), .int .u8 (a3 : Nat), .int .u8 (a4 : Nat), .int .u8 (a5 : Nat), .int .u8 (a6 : Nat), .int .u8 (a7 : Nat), .int .u8 (a8 : Nat), .int .u8 (a9 : Nat), .int .u8 (b0 : Nat), .int .u8 (b1 : Nat), .int .u8 (b2 : Nat), .int .u8 (b3 : Nat), .int .u8 (b4 : Nat), .int .u8 (b5 : Nat), u] 67)))
         clear hown3 hgrow3 hat3 hlt3 hu3)
      | (refine step_append_lies _ rfl (.tmp 5) (.tmp 7) 23 rfl W.heap.size 67 i0 _ 21 72 Tryz.underlying23 hi hz0 hz1 hz2 rfl (by decide) _ 0 [] rfl HOB.out ⟨bb, off, none⟩ n c FL rfl HFN.out.1 HNB.out HFN.out.2 HPOS.out HL1.out HL2.out HSA.out.2.1 _ rfl ?_
         intro g cap w3 hown3 hgrow3 hat3 hlt3
         simp only [Nat.zero_add, List.nil_append] at hown3
         simp only [Nat.zero_add]
         have hu3 := HXB.out.1.grown hgrow3 HSA.out.2.1 (fun j hj => (HOB.out.lt j hj).1)
         have hk1 := HLD.out _ (hu3.block _ HBW.out.2.2.2.2)
         have HU2 := Lib.hid hu3
         have HBA2 := Lib.hid HU2.out.size
         have HO2 := Lib.hid hown3
         have HNW := Lib.hid (World.news_of_block ((hgrow3.block (W.heap.size + 1) HSB.out.1 HSB.out.2.1).trans HXB.out.2))
         clear hown3 hgrow3 hat3 hlt3 hu3)
      | (refine step_append_lies _ rfl (.tmp 5) (.tmp 7) 23 rfl W.heap.size 67 i0 _ 21 72 Tryz.underlying23 hi hz0 hz1 hz2 rfl (by decide) _ 0 [] rfl HOC.out ⟨bb, off, none⟩ n c FL rfl HFN.out.1 HNC.out HFN.out.2 HPOS.out HL1.out HL2.out HSA.out.2.2 _ rfl ?_
         intro g cap w3 hown3 hgrow3 hat3 hlt3
         simp only [Nat.zero_add, List.nil_append] at hown3
         simp only [Nat.zero_add]
         have hu3 := HXC.out.1.grown hgrow3 HSA.out.2.2 (fun j hj => (HOC.out.lt j hj).1)
         have hk1 := HLD.out _ (hu3.block _ HBW.out.2.2.2.2)
         have HU2 := Lib.hid hu3
         have HBA2 := Lib.hid HU2.out.size
         have HO2 := Lib.hid hown3
         have HNW := Lib.hid (World.news_of_block ((hgrow3.block W.heap.size HSB.out.2.2.1 HSB.out.2.2.2).trans HXC.out.2))
         clear hown3 hgrow3 hat3 hlt3 hu3))
  all_goals
    have hgt := (HO4.out.1.lt g2 rfl).1
    have hsW := HBW.out.2.1
    have hb5 : Below w.heap.size w (w4.setCell ⟨w.heap.size, 2, none⟩ (.slice (some ⟨g2, 0, none⟩) (n + 1) cap2)) := (HBW.out.1.trans (HU4.out.mono HBW.out.1.size)).setCell (p := ⟨w.heap.size, 2, none⟩) (Nat.le_refl _) _
    have hc5 := set_third (w := w4) (v := .slice (some ⟨g2, 0, none⟩) (n + 1) cap2) ((HU4.out.block w.heap.size (by omega)).trans HBW.out.2.2.1)
    have hr5 := (set_other w4 w.heap.size 2 (.slice (some ⟨g2, 0, none⟩) (n + 1) cap2) (w.heap.size + 1 + 1) (by omega)).trans ((HU4.out.block (w.heap.size + 1 + 1) (by omega)).trans HBW.out.2.2.2.1)
    have hg5 := set_other w4 w.heap.size 2 (.slice (some ⟨g2, 0, none⟩) (n + 1) cap2) g2 (by omega)
    have hgn : g2 ≠ w.heap.size + 1 + 1 := by omega
    clear hgt hsW e2 e3 c0 c1' c2 cz
    revert hb5 hc5 hr5 hg5
    generalize w4.setCell ⟨w.heap.size, 2, none⟩ (.slice (some ⟨g2, 0, none⟩) (n + 1) cap2) = W5
    intro hb5 hc5 hr5 hg5
    obtain ⟨c0, c1', c2, cz⟩ := three_cells hc5
    obtain ⟨d0, d1, d2, dz⟩ := three_cells hr5
    have H5 := Lib.hid (And.intro hb5 (And.intro hg5 (And.intro hgn hr5)))
    clear hb5 hc5 hr5 hg5 hgn
    go_wp2_with fail
    rw [put3]
    refine bodyPost_ret (results_at Tryz.results56 rfl (put_same H5.out.2.2.2 rfl) rfl) rfl ?_
    exact HEND.out w4 _ g2 cap2 HO4.out.1 ((put_other H5.out.2.2.1).trans H5.out.2.1) (put_below H5.out.1 (by omega))
end Go.Proofs.YtdolpmmnjndfkaaGreatDoor
