/- Chapter 29, the walk: Points of the reference. -/
import Derived.Test.YtdolpmmnjndfkaaGreatDoorPoPt
import Derived.Deep.CutBlock
import Derived.Deep.DeepCutAuto
import Derived.Maps.AppendAt
import Derived.Laws.AppendOwnNone
import Derived.BigQuiet
namespace Go.Proofs.YtdolpmmnjndfkaaGreatDoor
open Go.RowKit
namespace Po
theorem ins_put (x : Nat × Nat) : ∀ (l : List (Nat × Nat)) (i : Nat), (∀ (q : Nat) (y : Nat × Nat), q < i → l[q]? = some y → ptLt y x = true) → (∀ y, l[i]? = some y → ptLt y x = false ∧ y ≠ x) → i ≤ l.length → insPt x l = l.take i ++ x :: l.drop i
  | [], i, _, _, h => by
    obtain rfl : i = 0 := Nat.le_zero.1 h
    simp [insPt]
  | y :: l, 0, _, h, _ => by
    obtain ⟨a, b⟩ := h y (by simp)
    simp [insPt, a, b]
  | y :: l, i + 1, h1, h2, h3 => by
    have a := h1 0 y (by omega) (by simp)
    rw [insPt, if_pos a, ins_put x l i (fun q z hq hz => h1 (q + 1) z (by omega) (by simpa using hz)) (fun z hz => h2 z (by simpa using hz)) (by simpa using h3)]
    rfl
theorem ins_same (x : Nat × Nat) : ∀ (l : List (Nat × Nat)) (i : Nat), (∀ (q : Nat) (y : Nat × Nat), q < i → l[q]? = some y → ptLt y x = true) → l[i]? = some x → insPt x l = l
  | [], i, _, h => by simp at h
  | y :: l, 0, _, h => by
    obtain rfl : y = x := by simpa using h
    have a : ptLt y y = false := by
      cases e : ptLt y y
      · rfl
      · exact absurd e (ptLt_irr y)
    simp [insPt, a]
  | y :: l, i + 1, h1, h2 => by
    have a := h1 0 y (by omega) (by simp)
    rw [insPt, if_pos a, ins_same x l i (fun q z hq hz => h1 (q + 1) z (by omega) (by simpa using hz)) (by simpa using h2)]
theorem points_take {o : List Nd} {k : Nat} {x : Nd} (hx : o[k]? = some x) : points (o.take (k + 1)) = if x.k = 7 then insPt (x.n, x.m) (points (o.take k)) else points (o.take k) := by
  have e : o.take (k + 1) = o.take k ++ [x] := by
    have hkl := (List.getElem?_eq_some_iff.1 hx).1
    rw [List.take_succ_eq_append_getElem hkl]
    rw [List.getElem?_eq_getElem hkl] at hx
    simp at hx
    rw [hx]
  unfold points
  rw [e, named_snoc]
  by_cases h : x.k = 7
  · simp [h, List.foldl_append]
  · simp [h]
end Po
theorem rpts_of_own {w : World} {B L : Nat} {v : Value} {l : List (Nat × Nat)} (h : w.ownsRow B 50 2 v l.length (ptFlat l)) (hL : L ≤ B) : RPts w L w.heap.size v l := by
  rcases h.2 with ⟨rfl, hz⟩ | ⟨g, cap, cur, rfl, hb, hg, hc, hm, hs, ht⟩
  · exact ⟨none, 0, by rw [hz], by omega, Nat.zero_le _, fun h => by omega⟩
  · refine ⟨some ⟨g, 0, none⟩, cap, rfl, hc, hm, fun hn => ?_⟩
    obtain ⟨g', cap', hv, hg', hlt, hc', hm', hx⟩ := own_cells h hn
    cases hv
    exact ⟨g, 0, rfl, by omega, hlt, fun i p hp => ⟨by rw [Nat.zero_add]; exact hx _ _ (ptFlat_at l i p hp).1, by rw [Nat.zero_add]; exact hx _ _ (ptFlat_at l i p hp).2⟩⟩
/-- the world behind the making of the point's box -/
structure PtSt (W wr W2 : World) (v : Value) (l : List (Nat × Nat)) (ln xn xm : Nat) : Prop where
  own : W2.ownsRow W.heap.size 50 2 v ln (ptFlat l)
  len : l.length = ln
  bel : Below W.heap.size W W2
  c0 : W2.cell? ⟨wr.heap.size, 0, none⟩ = some (.int .i64 xn)
  c1 : W2.cell? ⟨wr.heap.size, 1, none⟩ = some (.int .i64 xm)
  lt : wr.heap.size < W2.heap.size
theorem pt_state {W wr W2 : World} {v : Value} {l : List (Nat × Nat)} {xn xm : Nat} (h : wr.ownsRow W.heap.size 50 2 v l.length (ptFlat l)) (hb : Below W.heap.size W wr)
    (hW : (wr.alloc (.cells #[.int .i64 xn, .int .i64 xm] 50)).drew = W2) : PtSt W wr W2 v l l.length xn xm := by
  subst hW
  have e := heap_alloc_new wr (.cells #[.int .i64 xn, .int .i64 xm] 50)
  exact ⟨h.alloc _, rfl, Below.drew (hb.alloc hb.size _), cell_of_row _ _ 0 _ _ _ e, cell_of_row _ _ 1 _ _ _ e, by show wr.heap.size < (wr.alloc _).heap.size; simp⟩
theorem PtSt.cells {W wr W2 : World} {v : Value} {l : List (Nat × Nat)} {ln xn xm : Nat} (h : PtSt W wr W2 v l ln xn xm) :
    W2.cell? ⟨wr.heap.size, 0, none⟩ = some (.int .i64 xn) ∧ W2.cell? ⟨wr.heap.size, 1, none⟩ = some (.int .i64 xm) := ⟨h.c0, h.c1⟩
theorem PtSt.at {W wr W2 : World} {A : Option Addr} {c : Nat} {l : List (Nat × Nat)} {ln xn xm : Nat} (h : PtSt W wr W2 (.slice A ln c) l ln xn xm) {i : Nat} {y1 y2 : Nat} (hy : l[i]? = some (y1, y2)) :
    ∃ g, A = some ⟨g, 0, none⟩ ∧ W2.cell? ⟨g, i * 2, none⟩ = some (.int .i64 y1) ∧ W2.cell? ⟨g, i * 2 + 1, none⟩ = some (.int .i64 y2) := by
  obtain ⟨g, cap, hv, -, -, -, -, hx⟩ := own_cells h.own (by have := (List.getElem?_eq_some_iff.1 hy).1; have := h.len; omega)
  cases hv
  exact ⟨g, rfl, hx _ _ (ptFlat_at l i _ hy).1, hx _ _ (ptFlat_at l i _ hy).2⟩
theorem own_form3 {w : World} {B : Nat} {e : TypeId} {s n : Nat} {v : Value} {x : List Value} (h : w.ownsRow B e s v n x) : ∃ A c, v = .slice A n c ∧ n ≤ c ∧ c ≤ maxLen := by
  rcases h.2 with ⟨rfl, hz⟩ | ⟨g, cap, cur, rfl, hb, hg, hc, hm, hs, ht⟩
  · exact ⟨none, 0, by rw [hz], by omega, Nat.zero_le _⟩
  · exact ⟨_, _, rfl, hc, hm⟩
theorem own_base {w : World} {B B' : Nat} {e : TypeId} {s n : Nat} {v : Value} {x : List Value} (h : w.ownsRow B e s v n x) (hB : B' ≤ B) : w.ownsRow B' e s v n x := by
  refine ⟨h.1, ?_⟩
  rcases h.2 with h1 | ⟨g, cap, cur, h1, h2, h3⟩
  · exact .inl h1
  · exact .inr ⟨g, cap, cur, h1, Nat.le_trans hB h2, h3⟩
theorem all_next {l : List (Nat × Nat)} {i : Nat} {x y : Nat × Nat} (h : ∀ (j : Nat) (y : Nat × Nat), j < i → l[j]? = some y → Po.ptLt y x = true) (hy : l[i]? = some y) (hl : Po.ptLt y x = true) : ∀ (j : Nat) (y : Nat × Nat), j < i + 1 → l[j]? = some y → Po.ptLt y x = true := by
  intro j z hj hz
  by_cases e : j = i
  · subst e
    rw [hy] at hz
    simp only [Option.some.injEq] at hz
    rw [← hz]; exact hl
  · exact h j z (by omega) hz
theorem all_here {l : List (Nat × Nat)} {i : Nat} {x y : Nat × Nat} (hy : l[i]? = some y) (hl : Po.ptLt y x = false) : ∀ z, l[i]? = some z → Po.ptLt z x = false := by
  intro z hz
  rw [hy] at hz
  simp only [Option.some.injEq] at hz
  rw [← hz]; exact hl
theorem PtSt.drewN {W wr W2 : World} {v : Value} {l : List (Nat × Nat)} {ln xn xm : Nat} (h : PtSt W wr W2 v l ln xn xm) (q : Nat) : PtSt W wr (W2.drewN q) v l ln xn xm := ⟨h.own, h.len, below_drewN h.bel _, h.c0, h.c1, h.lt⟩
theorem addr_add (g o j : Nat) : (⟨g, o, none⟩ : Addr).add j = ⟨g, o + j, none⟩ := by
  unfold Addr.add
  split <;> simp_all
theorem get_take {α : Type} {l : List α} {m j : Nat} {u : α} (h : (l.take m)[j]? = some u) : l[j]? = some u := by
  rw [List.getElem?_take] at h
  split at h
  · exact h
  · cases h
theorem ptFlat_one : ∀ (l : List (Nat × Nat)) (u : Value), u ∈ ptFlat l → u.oneCell' = true
  | [], u, h => by simp [ptFlat] at h
  | p :: l, u, h => by
    simp only [ptFlat, List.flatMap_cons, List.cons_append, List.nil_append, List.mem_cons] at h
    rcases h with rfl | rfl | h
    · rfl
    · rfl
    · exact ptFlat_one l u h
theorem ptFlat_cons (p : Nat × Nat) (l : List (Nat × Nat)) : ptFlat (p :: l) = .int .i64 p.1 :: .int .i64 p.2 :: ptFlat l := rfl
theorem ptFlat_app (l m : List (Nat × Nat)) : ptFlat (l ++ m) = ptFlat l ++ ptFlat m := by unfold ptFlat; rw [List.flatMap_append]
theorem ptFlat_take : ∀ (l : List (Nat × Nat)) (i : Nat), ptFlat (l.take i) = (ptFlat l).take (i * 2)
  | [], i => by simp [ptFlat]
  | p :: l, 0 => by simp [ptFlat]
  | p :: l, i + 1 => by
    rw [List.take_succ_cons, ptFlat_cons, ptFlat_cons, ptFlat_take l i, show (i + 1) * 2 = i * 2 + 1 + 1 by omega, List.take_succ_cons, List.take_succ_cons]
theorem ptFlat_drop : ∀ (l : List (Nat × Nat)) (i : Nat), ptFlat (l.drop i) = (ptFlat l).drop (i * 2)
  | [], i => by simp [ptFlat]
  | p :: l, 0 => by simp
  | p :: l, i + 1 => by
    rw [List.drop_succ_cons, ptFlat_cons, ptFlat_drop l i, show (i + 1) * 2 = i * 2 + 1 + 1 by omega, List.drop_succ_cons, List.drop_succ_cons]
theorem pts_put {o : List Po.Nd} {k i ln xn xm : Nat} {x : Po.Nd} {l : List (Nat × Nat)} (h : Po.points (o.take (k + 1)) = if x.k = 7 then Po.insPt (x.n, x.m) (Po.points (o.take k)) else Po.points (o.take k)) (hl : Po.points (o.take k) = l) (h7 : x.k = 7) (hn : x.n = xn) (hm : x.m = xm)
    (h1 : ∀ (j : Nat) (y : Nat × Nat), j < i → l[j]? = some y → Po.ptLt y (xn, xm) = true) (h2 : ∀ y, l[i]? = some y → Po.ptLt y (xn, xm) = false) (hne : ¬ l[i]? = some (xn, xm)) (hln : l.length = ln) (hi : i ≤ ln) :
    (Po.points (o.take (k + 1))).length = i + 1 + (ln - i) ∧ ptFlat (Po.points (o.take (k + 1))) = (ptFlat l).take (i * 2) ++ [.int .i64 xn, .int .i64 xm] ++ (ptFlat l).drop (i * 2) := by
  have e : Po.points (o.take (k + 1)) = l.take i ++ (xn, xm) :: l.drop i := by
    rw [h, if_pos h7, hl, hn, hm, Po.ins_put (xn, xm) l i h1 (fun y hy => ⟨h2 y hy, fun e => hne (by rw [hy, e])⟩) (by omega)]
  rw [e]
  refine ⟨by simp; omega, ?_⟩
  rw [ptFlat_app, ptFlat_cons, ptFlat_take, ptFlat_drop]
  simp
set_option maxRecDepth 1000000 in
set_option maxHeartbeats 4000000 in
theorem rf_points (v : Value) (o : List Po.Nd) (w : World) (L : Nat) (hn : RNds w L w.heap.size v o) (hok : Po.OkAll o) (hl : o.length ≤ 100000) :
    Calls Tryz.prog 20 #[.agg #[v]] w (PointsSay w o) := by
  obtain ⟨Q, hQ⟩ : ∃ Q, PointsSay w o = Q := ⟨_, rfl⟩
  rw [hQ]
  have HQ := Lib.hid hQ
  obtain ⟨A, c, rfl, hnc, hcm⟩ := hn.form
  obtain ⟨n, hn0⟩ : ∃ n, o.length = n := ⟨_, rfl⟩
  have HN := Lib.hid hn0
  rw [hn0] at hl
  rw [HN.out]
  have hnn : n ≤ 100000 := hl
  have HNN := Lib.hid hnn
  obtain ⟨i0, hi0, hz0, hz1, hz2⟩ := info_parts pt_info
  have HI := Lib.hid (And.intro hi0 (And.intro hz0 (And.intro hz1 hz2)))
  obtain ⟨W, hW⟩ : ∃ W, w.alloc (.cells #[.slice A n c] 25) = W := ⟨_, rfl⟩
  obtain ⟨b1, hB, hsz⟩ := one_box W hW
  have HP0 : Hid (∀ wr, Below W.heap.size W wr → wr.cell? ⟨w.heap.size, 0, none⟩ = some (.slice A n c)) := Lib.hid fun wr h => by
    refine (h.cell (p := ⟨w.heap.size, 0, none⟩) (by show w.heap.size < W.heap.size; omega)).trans ?_
    have p0 := cell_of_row _ _ 0 _ _ _ b1
    exact p0
  have HBW := Lib.hid hB
  have HSZ := Lib.hid hsz
  have HD := Lib.hid (And.intro hn hok)
  clear b1 hB hsz hn hok hn0 hnc hcm hQ hl hnn hi0 hz0 hz1 hz2
  go_enter Tryz.func20, Tryz.ntmps20
  go_wp2_with fail
  clear hW
  go_loopg [3, 4] n (fun g s3 s4 wr => ∃ k : Nat, k + g = n ∧ s4 = .int .i64 k ∧ Hid (wr.ownsRow W.heap.size 50 2 s3 (Po.points (o.take k)).length (ptFlat (Po.points (o.take k))) ∧ Below W.heap.size W wr))
  case atStart => exact ⟨0, Nat.zero_add _, rfl, Lib.hid ⟨⟨rfl, .inl ⟨rfl, rfl⟩⟩, Below.refl _ _⟩⟩
  case round =>
    obtain ⟨k, hkg, rfl, HE⟩ := hrel
    have p0 := HP0.out wr HE.out.2
    cases gk with
    | zero =>
      obtain rfl : k = n := by omega
      have hk : ¬ (k : Int) < k := by omega
      have ht : o.take k = o := List.take_of_length_le (by rw [HN.out]; exact Nat.le_refl _)
      have hE := HE.out
      rw [ht] at hE
      have HE2 := Lib.hid hE
      clear hE ht
      go_wp2_with fail
      rw [← HQ.out]
      exact ⟨_, rfl, rpts_of_own HE2.out.1 HBW.out.size, HBW.out.trans (HE2.out.2.mono HBW.out.size)⟩
    | succ g =>
      have hk : (k : Int) < n := by omega
      have hk2 : 0 ≤ (k : Int) ∧ (k : Int) < n := by omega
      obtain ⟨x, hx⟩ : ∃ x, o[k]? = some x := ⟨_, List.getElem?_eq_getElem (by rw [HN.out]; omega)⟩
      obtain ⟨b, off, u, rfl, hbB, hrw, hof⟩ := HD.out.1.at hx
      have hbW : Below w.heap.size w wr := HBW.out.trans (HE.out.2.mono HBW.out.size)
      have hrr : wr.rangeAt b (off + k * 21) (ndVals x u) := fun j v hv => (hbW.cell (p := ⟨b, _, none⟩) hbB).trans (hrw j v hv)
      have hok := HD.out.2 k x hx
      obtain ⟨cl0, cl1, cl2, -⟩ := nd_cells x u hok.dg
      have c0 : wr.cell? ⟨b, off + k * 21, none⟩ = some (.int .i64 x.k) := hrr 0 _ cl0
      have HCC : Hid (wr.cell? ⟨b, off + k * 21 + 1, none⟩ = some (.int .i64 x.n) ∧ wr.cell? ⟨b, off + k * 21 + 2, none⟩ = some (.int .i64 x.m)) := Lib.hid ⟨hrr 1 _ cl1, hrr 2 _ cl2⟩
      have hbl : b < wr.heap.size := Nat.lt_of_lt_of_le hbB hbW.size
      have hwl : w.heap.size < wr.heap.size := by have := HE.out.2.size; have := HSZ.out; omega
      have HKS : Hid (∀ X : Obj, (wr.alloc X).drew.cell? ⟨w.heap.size, 0, none⟩ = some (.slice (some ⟨b, off, none⟩) n c) ∧ (wr.alloc X).drew.cell? ⟨b, off + k * 21 + 1, none⟩ = some (.int .i64 x.n) ∧ (wr.alloc X).drew.cell? ⟨b, off + k * 21 + 2, none⟩ = some (.int .i64 x.m)) := Lib.hid fun X => by
        have far : ∀ p o, p < wr.heap.size → (wr.alloc X).drew.cell? ⟨p, o, none⟩ = wr.cell? ⟨p, o, none⟩ := fun p o hp => World.cell?_alloc_lt _ _ _ hp
        exact ⟨(far _ _ hwl).trans p0, (far _ _ hbl).trans HCC.out.1, (far _ _ hbl).trans HCC.out.2⟩
      clear hbl hwl
      have HX := Lib.hid hx
      have HKG := Lib.hid hkg
      have wk : wrap64 ((k : Int) + 1) = (k : Int) + 1 := by have := HNN.out; unfold wrap64; omega
      clear hrr hrw hbB hx hof hok cl0 cl1 cl2 hbW hkg
      by_cases h7 : x.k = 7
      · have H7 := Lib.hid h7
        rw [h7] at c0
        clear h7
        obtain ⟨xn, hxn⟩ : ∃ xn, x.n = xn := ⟨_, rfl⟩
        obtain ⟨xm, hxm⟩ : ∃ xm, x.m = xm := ⟨_, rfl⟩
        have hcc := HCC.out
        rw [hxn, hxm] at hcc HKS
        obtain ⟨c1, c2⟩ := hcc
        have HXX := Lib.hid (And.intro hxn hxm)
        clear hxn hxm
        go_upto_region 6 with fail
        clear c0
        go_region_held3 (fun W' => W'.cell? ⟨w.heap.size, 0, none⟩ = some (.slice (some ⟨b, off, none⟩) n c) ∧ W'.cell? ⟨b, off + k * 21 + 1, none⟩ = some (.int .i64 xn) ∧ W'.cell? ⟨b, off + k * 21 + 2, none⟩ = some (.int .i64 xm)) (first | assumption | exact ⟨p0, c1, c2⟩ | exact HKS.out _) (fail)
        go_upto_block 2 with fail
        clear p0 c1 c2
        obtain ⟨W2, hW2⟩ : ∃ W2, (wr.alloc (.cells #[.int .i64 xn, .int .i64 xm] 50)).drew = W2 := ⟨_, rfl⟩
        rw [hW2]
        have HST := Lib.hid (pt_state HE.out.1 HE.out.2 hW2)
        obtain ⟨l, hl⟩ : ∃ l, Po.points (o.take k) = l := ⟨_, rfl⟩
        rw [hl] at HST
        obtain ⟨ln, hln⟩ : ∃ ln, l.length = ln := ⟨_, rfl⟩
        have HL := Lib.hid (And.intro hl hln)
        obtain ⟨A3, c3, rfl, hc3, hm3⟩ : ∃ A3 c3, u3 = .slice A3 l.length c3 ∧ l.length ≤ c3 ∧ c3 ≤ maxLen := own_form3 HST.out.own
        rw [hln] at HST hc3 ⊢
        have hlm : ln ≤ 100000 := by
          rw [← hln, ← hl]
          refine Nat.le_trans named_ok (Nat.le_trans (named_len _) ?_)
          rw [List.length_take]
          have := HNN.out
          omega
        have HLM := Lib.hid (And.intro hlm (And.intro hc3 hm3))
        clear hl hln hW2 HE hc3 hm3 hlm
        go_cut [6] from 8 to 96 (fun s6 wc => ∃ i q : Nat, s6 = .int .i64 i ∧ wc = W2.drewN q ∧ i ≤ ln ∧ Hid ((∀ (j : Nat) (y : Nat × Nat), j < i → l[j]? = some y → Po.ptLt y (xn, xm) = true) ∧ ∀ y, l[i]? = some y → Po.ptLt y (xn, xm) = false))
        case first =>
          go_wp2_with fail
          go_loopg [6] ln (fun g6 s6 wc => ∃ i q : Nat, i + g6 = ln ∧ s6 = .int .i64 i ∧ wc = W2.drewN q ∧ Hid (∀ (j : Nat) (y : Nat × Nat), j < i → l[j]? = some y → Po.ptLt y (xn, xm) = true))
          case atStart => exact ⟨0, 0, Nat.zero_add _, rfl, rfl, Lib.hid fun j y h => absurd h (Nat.not_lt_zero _)⟩
          case round =>
            obtain ⟨i, q, hig, rfl, rfl, HALL⟩ := hrel
            obtain ⟨x0, x1⟩ := HST.out.cells
            cases gk with
            | zero =>
              obtain rfl : ln = i := by omega
              have d1 : decide ((ln : Int) < ln) = false := by simp
              clear hig
              go_upto_region 8 with fail
              go_quiet (fail)
              all_goals
                go_wp2_with fail
                go_meet
                first | exact ⟨ln, _, rfl, rfl, Nat.le_refl _, Lib.hid ⟨HALL.out, fun y hy => absurd (List.getElem?_eq_some_iff.1 hy).1 (by rw [HL.out.2]; exact Nat.lt_irrefl _)⟩⟩ | exact ⟨ln, _, rfl, World.drewN_drewN _ _ _, Nat.le_refl _, Lib.hid ⟨HALL.out, fun y hy => absurd (List.getElem?_eq_some_iff.1 hy).1 (by rw [HL.out.2]; exact Nat.lt_irrefl _)⟩⟩
            | succ g6 =>
              obtain ⟨⟨y1, y2⟩, hy⟩ : ∃ y, l[i]? = some y := ⟨_, List.getElem?_eq_getElem (by rw [HL.out.2]; omega)⟩
              obtain ⟨g3, rfl, e0, e1⟩ := HST.out.at hy
              have d1 : decide ((i : Int) < ln) = true := by simp; omega
              have i1 : 0 ≤ (i : Int) ∧ (i : Int) < ln := by omega
              have i1' := i1.2
              have wi : wrap64 ((i : Int) + 1) = (i : Int) + 1 := by have := HLM.out.1; unfold wrap64; omega
              have HIG := Lib.hid hig
              have HY := Lib.hid hy
              clear hig hy
              by_cases a1 : y1 < xn
              · have d2 : decide (y1 < xn) = true := by simp; omega
                have HLT := Lib.hid (show Po.ptLt (y1, y2) (xn, xm) = true by rw [Po.ptLt_iff]; exact .inl a1)
                clear a1
                go_upto_region 8 with fail
                go_quiet (fail)
                all_goals
                  go_wp2_with fail
                  go_roundg g6
                  case measure => exact Nat.lt_succ_self _
                  case rel => first | exact ⟨i + 1, _, (Nat.add_right_comm i 1 g6).trans HIG.out, (by first | rfl | simp [wi]), rfl, Lib.hid (all_next HALL.out HY.out HLT.out)⟩ | exact ⟨i + 1, _, (Nat.add_right_comm i 1 g6).trans HIG.out, (by first | rfl | simp [wi]), World.drewN_drewN _ _ _, Lib.hid (all_next HALL.out HY.out HLT.out)⟩
              · have d2 : decide (y1 < xn) = false := by simp; omega
                by_cases a2 : y1 = xn
                · have d3 : ((y1 : Int) == xn) = true := by simp; omega
                  have d3' : (y1 == xn) = true := by simp; omega
                  have d3'' : decide (y1 = xn) = true := by simp; omega
                  by_cases a3 : y2 < xm
                  · have d4 : decide (y2 < xm) = true := by simp; omega
                    have HLT := Lib.hid (show Po.ptLt (y1, y2) (xn, xm) = true by rw [Po.ptLt_iff]; exact .inr ⟨a2, a3⟩)
                    clear a1 a2 a3
                    go_upto_region 8 with fail
                    go_quiet (fail)
                    all_goals
                      go_wp2_with fail
                      go_roundg g6
                      case measure => exact Nat.lt_succ_self _
                      case rel => first | exact ⟨i + 1, _, (Nat.add_right_comm i 1 g6).trans HIG.out, (by first | rfl | simp [wi]), rfl, Lib.hid (all_next HALL.out HY.out HLT.out)⟩ | exact ⟨i + 1, _, (Nat.add_right_comm i 1 g6).trans HIG.out, (by first | rfl | simp [wi]), World.drewN_drewN _ _ _, Lib.hid (all_next HALL.out HY.out HLT.out)⟩
                  · have d4 : decide (y2 < xm) = false := by simp; omega
                    have HLT := Lib.hid (show Po.ptLt (y1, y2) (xn, xm) = false by rw [← Bool.not_eq_true, Po.ptLt_iff]; intro h; simp only at h; omega)
                    clear a1 a2 a3
                    go_upto_region 8 with fail
                    go_quiet (fail)
                    all_goals
                      go_wp2_with fail
                      go_meet
                      first | exact ⟨i, _, rfl, rfl, by have := HIG.out; omega, Lib.hid ⟨HALL.out, all_here HY.out HLT.out⟩⟩ | exact ⟨i, _, rfl, World.drewN_drewN _ _ _, by have := HIG.out; omega, Lib.hid ⟨HALL.out, all_here HY.out HLT.out⟩⟩
                · have d3 : ((y1 : Int) == xn) = false := by simp; omega
                  have d3' : (y1 == xn) = false := by simp; omega
                  have d3'' : decide (y1 = xn) = false := by simp; omega
                  have HLT := Lib.hid (show Po.ptLt (y1, y2) (xn, xm) = false by rw [← Bool.not_eq_true, Po.ptLt_iff]; intro h; simp only at h; omega)
                  clear a1 a2
                  go_upto_region 8 with fail
                  go_quiet (fail)
                  all_goals
                    go_wp2_with fail
                    go_meet
                    first | exact ⟨i, _, rfl, rfl, by have := HIG.out; omega, Lib.hid ⟨HALL.out, all_here HY.out HLT.out⟩⟩ | exact ⟨i, _, rfl, World.drewN_drewN _ _ _, by have := HIG.out; omega, Lib.hid ⟨HALL.out, all_here HY.out HLT.out⟩⟩
        case rest =>
          obtain ⟨i, q, rfl, rfl, hil, HR⟩ := hcut
          obtain ⟨x0, x1⟩ := HST.out.cells
          have HIL := Lib.hid hil
          have wk' := wk
          clear hil wk'
          go_upto_region 10 with fail
          go_cut [82] from 8 to 96 (fun s82 wc => ∃ q : Nat, wc = W2.drewN q ∧ s82 = .bool (decide (l[i]? = some (xn, xm))))
          case first =>
            by_cases hlt : i < ln
            · obtain ⟨⟨y1, y2⟩, hy⟩ : ∃ y, l[i]? = some y := ⟨_, List.getElem?_eq_getElem (by rw [HL.out.2]; exact hlt)⟩
              obtain ⟨g3, rfl, e0, e1⟩ := HST.out.at hy
              have d1 : decide ((i : Int) < ln) = true := by simp; omega
              have i1 : 0 ≤ (i : Int) ∧ (i : Int) < ln := by omega
              have i1' := i1.2
              have hE := fun w => pt_equal (y1 : Int) y2 xn xm w
              have HY : Hid (decide (((y1 : Int) = xn) ∧ ((y2 : Int) = xm)) = decide (l[i]? = some (xn, xm))) := Lib.hid (by rw [hy]; simp; grind)
              generalize decide (((y1 : Int) = xn) ∧ ((y2 : Int) = xm)) = B at HY hE
              clear hy hlt
              go_quiet (fail)
              all_goals
                go_wp2_with fail
                go_meet
                first | exact ⟨_, rfl, congrArg Value.bool HY.out⟩ | exact ⟨_, World.drewN_drewN _ _ _, congrArg Value.bool HY.out⟩
            · have HY : Hid (false = decide (l[i]? = some (xn, xm))) := Lib.hid (by rw [List.getElem?_eq_none (by rw [HL.out.2]; omega)]; simp)
              have d1 : decide ((i : Int) < ln) = false := by simp; omega
              have d1' : ¬ (i : Int) < ln := by omega
              clear hlt
              go_quiet (fail)
              all_goals
                go_wp2_with fail
                go_meet
                first | exact ⟨_, rfl, congrArg Value.bool HY.out⟩ | exact ⟨_, World.drewN_drewN _ _ _, congrArg Value.bool HY.out⟩
          case rest =>
            obtain ⟨q, rfl, rfl⟩ := hcut
            obtain ⟨B, hB⟩ : ∃ B, decide (l[i]? = some (xn, xm)) = B := ⟨_, rfl⟩
            rw [hB]
            have HB := Lib.hid hB
            have HPT := Lib.hid (Po.points_take HX.out)
            clear hB
            cases B with
            | true =>
              go_wp2_with fail
              go_roundg g
              case measure => exact Nat.lt_succ_self _
              case rel => exact ⟨k + 1, (Nat.add_right_comm k 1 g).trans HKG.out, by first | rfl | simp [wk], Lib.hid (by
                rw [HPT.out, if_pos H7.out, HXX.out.1, HXX.out.2, HL.out.1, Po.ins_same _ l i HR.out.1 (of_decide_eq_true HB.out), HL.out.2]
                exact ⟨HST.out.own, below_drewN HST.out.bel _⟩)⟩
            | false =>
              have HSX := Lib.hid (HST.out.drewN q)
              have HWK := Lib.hid wk
              clear x0 x1
              generalize W2.drewN q = wx at HSX ⊢
              obtain ⟨x0, x1⟩ := HSX.out.cells
              have HNX := Lib.hid (pts_put HPT.out HL.out.1 H7.out HXX.out.1 HXX.out.2 HR.out.1 HR.out.2 (of_decide_eq_false HB.out) HL.out.2 HIL.out)
              have hi0 := HI.out.1
              have hz0 := HI.out.2.1
              have hz1 := HI.out.2.2.1
              have hz2 := HI.out.2.2.2
              rcases HSX.out.own.2 with ⟨hv, hz⟩ | ⟨g3, cap3, cur3, hv, hg3, hgx, hcc3, hmm3, hs3, ht3⟩
              · simp only [Value.slice.injEq] at hv
                obtain ⟨rfl, rfl, rfl⟩ := hv
                obtain rfl : i = 0 := by have := HIL.out; omega
                clear hz
                have HDR : Hid (ptFlat l = []) := Lib.hid (List.eq_nil_of_length_eq_zero HSX.out.own.1)
                clear hk hk2 wk
                go_upto_region 13 with (at_builtin; refine wpList_append_own_none rfl (.tmp 83) (.tmp 86) 36 rfl W.heap.size 50 i0 2 Tryz.underlying36 hi0 (.slice none 0 0) 0 [] rfl (World.ownsRow_nil _ _ _ _) rfl ?_)
                have HNEW := Lib.hid (World.news_of_block (show (wx.alloc (.cells #[.int .i64 xn, .int .i64 xm] 50)).heap[wx.heap.size]? = _ from heap_alloc_new wx _))
                have HNE := Lib.hid (fun (u : Value) (hu : u ∈ [Value.int .i64 (xn : Int), Value.int .i64 (xm : Int)]) => show u.oneCell' = true by
                  simp only [List.mem_cons, List.not_mem_nil, or_false] at hu
                  rcases hu with rfl | rfl <;> rfl)
                have HM2 : Hid (0 + 1 ≤ maxLen ∧ (0 + 1) * 16 ≤ 140737488355328 ∧ W.heap.size ≤ (wx.alloc (.cells #[.int .i64 xn, .int .i64 xm] 50)).heap.size) := Lib.hid (by have := HSX.out.bel.size; unfold maxLen; simp; omega)
                go_upto_region 14 with (at_builtin; refine wpList_append_own _ rfl (.tmp 88) (.tmp 90) 36 rfl W.heap.size 50 i0 (.agg #[.int .i64 0, .int .i64 0]) 2 16 Tryz.underlying36 hi0 hz0 hz1 hz2 rfl (by decide) (.slice none 0 0) 0 [] rfl (World.ownsRow_nil _ _ _ _) ⟨wx.heap.size, 0, none⟩ 1 1 [.int .i64 xn, .int .i64 xm] rfl rfl HNEW.out HNE.out HM2.out.1 HM2.out.2.1 HM2.out.2.2 ?_; intro v8 w6 hown6 hgr6 _)
                have HB6 : Hid (Below W.heap.size W w6) := Lib.hid ((HSX.out.bel.alloc HSX.out.bel.size _).grown hgr6 HM2.out.2.2 (fun j hj => by cases hj))
                have H6 := Lib.hid hown6
                have wk := HWK.out
                clear x0 x1 hown6 hgr6
                go_wp2_with (at_builtin; refine wpList_append_own_none rfl (.tmp 92) (.tmp 95) 36 rfl W.heap.size 50 i0 2 Tryz.underlying36 hi0 _ _ _ rfl H6.out rfl ?_)
                go_roundg g
                case measure => exact Nat.lt_succ_self _
                case rel => exact ⟨k + 1, (Nat.add_right_comm k 1 g).trans HKG.out, by first | rfl | simp [wk], Lib.hid (by
                  rw [HNX.out.1, HNX.out.2, HDR.out]
                  exact ⟨H6.out, HB6.out⟩)⟩
              · simp only [Value.slice.injEq, true_and] at hv
                obtain ⟨rfl, rfl⟩ := hv
                have HG3 : Hid (g3 < wx.heap.size) := Lib.hid (by
                  rcases Nat.lt_or_ge g3 wx.heap.size with h | h
                  · exact h
                  · rw [Array.getElem?_eq_none h] at hgx; cases hgx)
                have HALLC : Hid (∀ j u, (ptFlat l)[j]? = some u → wx.cell? ((⟨g3, 0, none⟩ : Addr).add j) = some u) := Lib.hid (HSX.out.own.cells (g := g3) rfl)
                have HFL : Hid ((ptFlat l).length = ln * 2) := Lib.hid HSX.out.own.1
                have b1 : 0 ≤ (i : Int) ∧ (i : Int) ≤ c3 := by have := HIL.out; have := HLM.out.2.1; omega
                have b1' := b1.2
                have b2 : (i : Int) ≤ ln := by have := HIL.out; omega
                have HT1 : Hid (((ptFlat l).take (i * 2)).length = i * 2) := Lib.hid (by rw [List.length_take, HFL.out]; have := HIL.out; omega)
                have HN1 : Hid (∀ j u, ((ptFlat l).take (i * 2))[j]? = some u → wx.cell? ((⟨g3, 0, none⟩ : Addr).add j) = some u) := Lib.hid (fun j u hj => HALLC.out j u (get_take hj))
                have HO1 : Hid (∀ u ∈ (ptFlat l).take (i * 2), u.oneCell' = true) := Lib.hid fun u hu => ptFlat_one l u (List.mem_of_mem_take hu)
                have HM1 : Hid (0 + i ≤ maxLen ∧ (0 + i) * 16 ≤ 140737488355328) := Lib.hid (by have := HLM.out.1; have := HIL.out; unfold maxLen; omega)
                clear hgx hcc3 hmm3 hs3 ht3 hg3 hk hk2 wk
                go_upto_region 13 with (at_builtin; refine wpList_append_own _ rfl (.tmp 83) (.tmp 86) 36 rfl wx.heap.size 50 i0 (.agg #[.int .i64 0, .int .i64 0]) 2 16 Tryz.underlying36 hi0 hz0 hz1 hz2 rfl (by decide) (.slice none 0 0) 0 [] rfl (World.ownsRow_nil _ _ _ _) ⟨g3, 0, none⟩ i c3 ((ptFlat l).take (i * 2)) rfl HT1.out HN1.out HO1.out HM1.out.1 HM1.out.2 (Nat.le_refl _) ?_; intro v7 w5 hown5 hgr5 _)
                have h5 : w5.ownsRow wx.heap.size 50 2 v7 i ((ptFlat l).take (i * 2)) := by rw [Nat.zero_add, List.nil_append] at hown5; exact hown5
                have HB5 : Hid (Below wx.heap.size wx w5) := Lib.hid ((Below.refl _ _).grown hgr5 (Nat.le_refl _) (fun j hj => by cases hj))
                have H5 := Lib.hid h5
                have y0 := (HB5.out.cell (p := ⟨wr.heap.size, 0, none⟩) HSX.out.lt).trans x0
                have y1 := (HB5.out.cell (p := ⟨wr.heap.size, 1, none⟩) HSX.out.lt).trans x1
                clear x0 x1 hown5 hgr5 h5 b1 b1' b2
                have HNEW := Lib.hid (World.news_of_block (show (w5.alloc (.cells #[.int .i64 xn, .int .i64 xm] 50)).heap[w5.heap.size]? = _ from heap_alloc_new w5 _))
                have HNE := Lib.hid (fun (u : Value) (hu : u ∈ [Value.int .i64 (xn : Int), Value.int .i64 (xm : Int)]) => show u.oneCell' = true by
                  simp only [List.mem_cons, List.not_mem_nil, or_false] at hu
                  rcases hu with rfl | rfl <;> rfl)
                have HM2 : Hid (i + 1 ≤ maxLen ∧ (i + 1) * 16 ≤ 140737488355328 ∧ wx.heap.size ≤ (w5.alloc (.cells #[.int .i64 xn, .int .i64 xm] 50)).heap.size) := Lib.hid (by have := HLM.out.1; have := HIL.out; have := HB5.out.size; unfold maxLen; simp; omega)
                have HOWN5 := Lib.hid (H5.out.alloc (.cells #[.int .i64 xn, .int .i64 xm] 50))
                go_upto_region 14 with (at_builtin; refine wpList_append_own _ rfl (.tmp 88) (.tmp 90) 36 rfl wx.heap.size 50 i0 (.agg #[.int .i64 0, .int .i64 0]) 2 16 Tryz.underlying36 hi0 hz0 hz1 hz2 rfl (by decide) _ _ _ rfl HOWN5.out ⟨w5.heap.size, 0, none⟩ 1 1 [.int .i64 xn, .int .i64 xm] rfl rfl HNEW.out HNE.out HM2.out.1 HM2.out.2.1 HM2.out.2.2 ?_; intro v8 w6 hown6 hgr6 _)
                have HB6 : Hid (Below wx.heap.size wx w6) := Lib.hid ((HB5.out.alloc HB5.out.size _).grown hgr6 HM2.out.2.2 (fun j hj => (H5.out.lt j hj).1))
                have H6 := Lib.hid hown6
                clear y0 y1 hown6 hgr6
                have HT2 : Hid (((ptFlat l).drop (i * 2)).length = (ln - i) * 2) := Lib.hid (by rw [List.length_drop, HFL.out]; have := HIL.out; omega)
                have HN2 : Hid (∀ j u, ((ptFlat l).drop (i * 2))[j]? = some u → w6.cell? ((⟨g3, i * 2, none⟩ : Addr).add j) = some u) := Lib.hid (fun j u hj => by
                  rw [List.getElem?_drop] at hj
                  have t := HALLC.out _ u hj
                  rw [addr_add, Nat.zero_add] at t
                  rw [addr_add]
                  exact (HB6.out.cell (p := ⟨g3, _, none⟩) HG3.out).trans t)
                have HO2 : Hid (∀ u ∈ (ptFlat l).drop (i * 2), u.oneCell' = true) := Lib.hid fun u hu => ptFlat_one l u (List.mem_of_mem_drop hu)
                have HM3 : Hid (i + 1 + (ln - i) ≤ maxLen ∧ (i + 1 + (ln - i)) * 16 ≤ 140737488355328) := Lib.hid (by have := HLM.out.1; have := HIL.out; unfold maxLen; omega)
                have b3 : 0 ≤ (i : Int) ∧ (i : Int) ≤ ln ∧ (ln : Int) ≤ c3 := by have := HLM.out.2.1; have := HIL.out; omega
                by_cases hci : c3 = i
                · have HZ : Hid (ln - i = 0) := Lib.hid (by omega)
                  have HDR : Hid ((ptFlat l).drop (i * 2) = []) := Lib.hid (List.drop_eq_nil_of_le (by rw [HFL.out]; omega))
                  go_wp2_with (at_builtin; refine wpList_append_own _ rfl (.tmp 92) (.tmp 95) 36 rfl wx.heap.size 50 i0 (.agg #[.int .i64 0, .int .i64 0]) 2 16 Tryz.underlying36 hi0 hz0 hz1 hz2 rfl (by decide) _ _ _ rfl H6.out _ (ln - i) _ [] rfl (by rw [HZ.out]; rfl) (fun j u h => by simp at h) (fun u h => by simp at h) HM3.out.1 HM3.out.2 HB6.out.size ?_; intro v9 w7 hown7 hgr7 _)
                  have HB7 : Hid (Below wx.heap.size wx w7) := Lib.hid (HB6.out.grown hgr7 HB6.out.size (fun j hj => (H6.out.lt j hj).1))
                  have H7w := Lib.hid hown7
                  have wk := HWK.out
                  clear hown7 hgr7 b3 hi0 hz0 hz1 hz2
                  go_wp2_with fail
                  go_roundg g
                  case measure => exact Nat.lt_succ_self _
                  case rel => exact ⟨k + 1, (Nat.add_right_comm k 1 g).trans HKG.out, by first | rfl | simp [wk], Lib.hid (by
                    rw [HNX.out.1, HNX.out.2, HDR.out]
                    exact ⟨own_base H7w.out HSX.out.bel.size, HSX.out.bel.trans (HB7.out.mono HSX.out.bel.size)⟩)⟩
                · have hci' : (c3 == i) = false := by simpa using hci
                  go_wp2_with (at_builtin; refine wpList_append_own _ rfl (.tmp 92) (.tmp 95) 36 rfl wx.heap.size 50 i0 (.agg #[.int .i64 0, .int .i64 0]) 2 16 Tryz.underlying36 hi0 hz0 hz1 hz2 rfl (by decide) _ _ _ rfl H6.out ⟨g3, i * 2, none⟩ (ln - i) (c3 - i) ((ptFlat l).drop (i * 2)) rfl HT2.out HN2.out HO2.out HM3.out.1 HM3.out.2 HB6.out.size ?_; intro v9 w7 hown7 hgr7 _)
                  have HB7 : Hid (Below wx.heap.size wx w7) := Lib.hid (HB6.out.grown hgr7 HB6.out.size (fun j hj => (H6.out.lt j hj).1))
                  have H7w := Lib.hid hown7
                  have wk := HWK.out
                  clear hown7 hgr7 b3 hi0 hz0 hz1 hz2
                  go_wp2_with fail
                  go_roundg g
                  case measure => exact Nat.lt_succ_self _
                  case rel => exact ⟨k + 1, (Nat.add_right_comm k 1 g).trans HKG.out, by first | rfl | simp [wk], Lib.hid (by
                    rw [HNX.out.1, HNX.out.2]
                    exact ⟨own_base H7w.out HSX.out.bel.size, HSX.out.bel.trans (HB7.out.mono HSX.out.bel.size)⟩)⟩
      · have h7' : ¬ (x.k : Int) = 7 := by omega
        have HS := Lib.hid (Po.points_take HX.out)
        have H7 := Lib.hid h7
        clear h7
        go_wp2_with fail
        go_roundg g
        case measure => exact Nat.lt_succ_self _
        case rel => exact ⟨k + 1, (Nat.add_right_comm k 1 g).trans HKG.out, by first | rfl | simp [wk], Lib.hid (by rw [HS.out, if_neg H7.out]; exact HE.out)⟩
end Go.Proofs.YtdolpmmnjndfkaaGreatDoor
