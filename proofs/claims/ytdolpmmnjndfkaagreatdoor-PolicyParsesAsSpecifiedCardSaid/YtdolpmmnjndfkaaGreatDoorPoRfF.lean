/- Chapter 29, the walk: digest of the reference. -/
import Derived.Test.YtdolpmmnjndfkaaGreatDoorPoRfE
import Derived.Test.YtdolpmmnjndfkaaGreatDoorPoDig
namespace Go.Proofs.YtdolpmmnjndfkaaGreatDoor
open Go.RowKit
/-- the memory that digest works in -/
structure DgMem (w W : World) (vl vn : Value) (k : Int) (d : List Nat) : Prop where
  x : W.heap[w.heap.size]? = some (.cells #[vl, .int .i64 k, vn] 57 (0, 0))
  r1 : W.heap[w.heap.size + 1]? = some (.cells (digCells []) 65 (0, 0))
  r2 : W.heap[w.heap.size + 1 + 1]? = some (.cells #[.slice none 0 0, .int .i64 0, .slice none 0 0] 57 (0, 0))
  d : W.heap[w.heap.size + 1 + 1 + 1]? = some (.cells (digCells d) 65 (0, 0))
  bel : Below w.heap.size w W
  sz : w.heap.size + 4 ≤ W.heap.size
theorem DgMem.below {w W W' : World} {vl vn : Value} {k : Int} {d : List Nat} (h : DgMem w W vl vn k d) (hb : Below W.heap.size W W') : DgMem w W' vl vn k d := by
  have hs := h.sz
  exact ⟨(hb.block _ (by omega)).trans h.x, (hb.block _ (by omega)).trans h.r1, (hb.block _ (by omega)).trans h.r2, (hb.block _ (by omega)).trans h.d, h.bel.trans (hb.mono h.bel.size), Nat.le_trans hs hb.size⟩
theorem DgMem.setK {w W : World} {vl vn : Value} {k : Int} {d : List Nat} (h : DgMem w W vl vn k d) (k' : Int) : DgMem w (W.setCell ⟨w.heap.size, 1, none⟩ (.int .i64 k')) vl vn k' d := by
  refine ⟨set_mid h.x, (set_other _ _ _ _ _ (by omega)).trans h.r1, (set_other _ _ _ _ _ (by omega)).trans h.r2, (set_other _ _ _ _ _ (by omega)).trans h.d, h.bel.setCell (p := ⟨w.heap.size, 1, none⟩) (Nat.le_refl _) _, by simpa [World.setCell] using h.sz⟩
theorem DgMem.setX {w W : World} {vl vn : Value} {k : Int} {d : List Nat} (h : DgMem w W vl vn k d) (k' : Int) : DgMem w (putRow W w.heap.size #[vl, .int .i64 k', vn]) vl vn k' d := by
  refine ⟨put_same h.x rfl, (put_other (by omega)).trans h.r1, (put_other (by omega)).trans h.r2, (put_other (by omega)).trans h.d, put_below h.bel (Nat.le_refl _), by rw [size_putRow]; exact h.sz⟩
theorem DgMem.setD {w W : World} {vl vn : Value} {k : Int} {d : List Nat} {n : Nat} (h : DgMem w W vl vn k d) (b : Nat) (hn : d.length = n) (hd : n < 16) : DgMem w (W.setCell ⟨w.heap.size + 1 + 1 + 1, n, none⟩ (.int .u8 (b : Nat))) vl vn k (d ++ [b]) := by
  subst hn
  refine ⟨(set_other _ _ _ _ _ (by omega)).trans h.x, (set_other _ _ _ _ _ (by omega)).trans h.r1, (set_other _ _ _ _ _ (by omega)).trans h.r2, dig_set h.d hd, h.bel.setCell (p := ⟨w.heap.size + 1 + 1 + 1, d.length, none⟩) (by simp only; omega) _, by simpa [World.setCell] using h.sz⟩
/-- the bytes of a digest, filled up with zeros -/
def fillD (d : List Nat) : List Nat := d ++ List.replicate (16 - d.length) 0
theorem fillD_len {d : List Nat} (h : d.length ≤ 16) : (fillD d).length = 16 := by simp [fillD]; omega
theorem fillD_cells (d : List Nat) : digCells d = (dgVals (fillD d)).toArray := rfl
theorem fillD_full {d : List Nat} (h : d.length = 16) : fillD d = d := by simp [fillD, h]
theorem dig_one (d : List Nat) : (digCells d).all (·.oneCell') = true := by
  rw [Array.all_eq_true_iff_forall_mem]
  intro u hu
  simp only [digCells, List.mem_toArray, List.mem_map] at hu
  obtain ⟨b, _, rfl⟩ := hu
  rfl
theorem DgMem.pair {w W : World} {A1 A2 : Option Addr} {n1 c1 n2 c2 : Nat} {k : Int} {d : List Nat} (h : DgMem w W (.slice A1 n1 c1) (.slice A2 n2 c2) k d) (hd : d.length ≤ 16) :
    PairAt Tryz.prog W 65 57 (w.heap.size + 1 + 1 + 1) w.heap.size (w.heap.size + 1) (w.heap.size + 1 + 1) (digCells d) #[.slice A1 n1 c1, .int .i64 k, .slice A2 n2 c2] (digCells []) #[.slice none 0 0, .int .i64 0, .slice none 0 0] :=
  ⟨h.d, h.x, h.r1, h.r2, by rw [digCells_size hd]; rfl, rfl, dig_one d, by simp [Value.oneCell'], by omega, by omega, row_dig, row_at, by rw [digCells_size hd]; exact size_dig, size_at⟩
/-- what digest answers -/
def DigR (L : List Po.Tok) (k0 : Int) (vl vn : Value) (w : World) (e : Ending) (w' : World) : Prop :=
  ∃ (d : List Nat) (k : Int), e = .returned (.tuple #[.agg (dgVals d).toArray, .agg #[vl, .int .i64 k, vn]]) ∧ RR L (Po.digestF 4 (Po.rest L k0)) d k ∧ d.length = 16 ∧ Below w.heap.size w w'
theorem DgMem.says {w W : World} {A1 A2 : Option Addr} {n1 c1 n2 c2 : Nat} {k k0 : Int} {d : List Nat} {L : List Po.Tok} (h : DgMem w W (.slice A1 n1 c1) (.slice A2 n2 c2) k d) (hd : d.length ≤ 16) (hr : RR L (Po.digestF 4 (Po.rest L k0)) (fillD d) k) :
    DigR L k0 (.slice A1 n1 c1) (.slice A2 n2 c2) w (.returned (.tuple #[.agg (digCells d), .agg #[.slice A1 n1 c1, .int .i64 k, .slice A2 n2 c2]])) (pairW W (w.heap.size + 1) (w.heap.size + 1 + 1) (digCells d) #[.slice A1 n1 c1, .int .i64 k, .slice A2 n2 c2]) :=
  ⟨fillD d, k, rfl, hr, fillD_len hd, h.bel.trans (pairW_below (by omega) (by omega))⟩
/-- how far the digest has come -/
def DgAt (L : List Po.Tok) (k0 k : Int) (g : Nat) (d : List Nat) : Prop :=
  (0 ≤ k ∧ Po.Pos L k ∧ Po.digestF 4 (Po.rest L k0) = (Po.digestF g (Po.rest L k)).map fun y => (d ++ y.1, y.2)) ∨ (k = -1 ∧ Po.digestF 4 (Po.rest L k0) = none)
theorem DgAt.fin {L : List Po.Tok} {k0 k : Int} {d : List Nat} (h : DgAt L k0 k 0 d) (hd : d.length = 16) : RR L (Po.digestF 4 (Po.rest L k0)) (fillD d) k := by
  rcases h with ⟨h0, hp, h⟩ | ⟨h0, h⟩
  · rw [h, fillD_full hd]
    exact ⟨by simp, h0, hp.2, by simp⟩
  · rw [h]; exact h0
theorem rf_byte {a b : Nat} (ha : a < 16) (hb : b < 16) : (16 * (a : Int) + (b : Int)) % 256 = ((16 * a + b : Nat) : Int) := by omega
theorem hexV_some {b : UInt8} {n : Nat} (h : Po.hexd b = some n) : hexV b = n := by unfold hexV; rw [h]
theorem hexV_none {b : UInt8} (h : Po.hexd b = none) : hexV b = -1 := by unfold hexV; rw [h]
theorem four_new {w : World} {o1 o2 o3 o4 : Obj} : ∀ W, (((w.alloc o1).alloc o2).alloc o3).alloc o4 = W → W.heap[w.heap.size]? = some o1 ∧ W.heap[w.heap.size + 1]? = some o2 ∧ W.heap[w.heap.size + 1 + 1]? = some o3 ∧ W.heap[w.heap.size + 1 + 1 + 1]? = some o4 ∧ Below w.heap.size w W ∧ W.heap.size = w.heap.size + 4 := by
  rintro W rfl
  obtain ⟨h1, h2, h3, hb, hs⟩ := three_new3 _ (rfl : ((w.alloc o1).alloc o2).alloc o3 = _)
  have e := heap_alloc_new (((w.alloc o1).alloc o2).alloc o3) o4
  rw [hs] at e
  exact ⟨(Below.heap_alloc _ _ _ (by omega)).trans h1, (Below.heap_alloc _ _ _ (by omega)).trans h2, (Below.heap_alloc _ _ _ (by omega)).trans h3, e, hb.alloc hb.size _, by rw [World.size_alloc, hs]⟩
theorem pair_fin {P : Program} {A B b1 b2 c1 c2 r1 r2 : Nat} {cs ys za zb : Array Value} {W : World} {fn : Func} {R : Ending → World → Prop} {Q : Exit → Act → World → Prop} {a a' : Act} (hW : PairAt P W A B b1 b2 c1 c2 cs ys za zb) (hd : a.defers = []) (h1 : a'.defers = a.defers) (h2 : a'.eval (.tmp r1) = a.eval (.tmp r1)) (h3 : a'.eval (.tmp r2) = a.eval (.tmp r2))
    (e3 : a.eval (.tmp r1) = .pointer (some ⟨c1, 0, none⟩)) (e4 : a.eval (.tmp r2) = .pointer (some ⟨c2, 0, none⟩)) (hres : fn.results = #[.cell r1 A, .cell r2 B]) (hQ : ∀ a w, bodyPost P fn R .ret a w → Q .ret a w) (hq : R (.returned (.tuple #[.agg cs, .agg ys])) (pairW W c1 c2 cs ys)) :
    Code.wp P Code.ret Q a' (pairW W c1 c2 cs ys) := by
  refine wp_ret (hQ _ _ ?_)
  obtain ⟨k1, k2⟩ := pairW_at hW
  have f1 : a'.tmps[r1]?.getD undef = .pointer (some ⟨c1, 0, none⟩) := by have := h2.trans e3; simpa [Act.eval] using this
  have f2 : a'.tmps[r2]?.getD undef = .pointer (some ⟨c2, 0, none⟩) := by have := h3.trans e4; simpa [Act.eval] using this
  exact bodyPost_ret (results_two hres f1 f2 k1 k2 hW.uA hW.uB hW.iA hW.iB) (h1.trans hd) hq
theorem dig_bad {L : List Po.Tok} {g : Nat} {l : List Po.Tok} {x : Po.Tok} {k2 : Int} (h : RR L (Po.must 1 [] l) x k2) (hw : Po.word4 x.t = none) : Po.digestF (g + 1) l = none := by
  cases e : Po.must 1 [] l with
  | none => exact Po.digestF_fail e
  | some y =>
    obtain ⟨y, r⟩ := y
    rw [e] at h
    rw [h.1] at hw
    exact Po.digestF_word e hw
theorem dig_good {L : List Po.Tok} {g : Nat} {l : List Po.Tok} {x : Po.Tok} {k2 : Int} {d : List Nat} (h : RR L (Po.must 1 [] l) x k2) (hn : Po.must 1 [] l ≠ none) (hw : Po.word4 x.t = some d) : 0 ≤ k2 ∧ Po.Pos L k2 ∧ Po.digestF (g + 1) l = (Po.digestF g (Po.rest L k2)).map fun y => (d ++ y.1, y.2) := by
  cases e : Po.must 1 [] l with
  | none => exact absurd e hn
  | some y =>
    obtain ⟨y, r⟩ := y
    rw [e] at h
    obtain ⟨h1, h2, h3, h4⟩ := h
    rw [h1] at hw
    simp only at h4
    exact ⟨h2, ⟨by omega, h3⟩, by rw [Po.digestF_step e hw, h4]⟩
theorem rmust_text {L : List Po.Tok} {k : Int} {kd : Nat} {t : List UInt8} (h : Po.must kd t (Po.rest L k) = none) : (rmust L k kd t).1.t = [] := by unfold rmust; rw [h]
theorem nneg (a : Nat) : ¬ (a : Int) < 0 := by omega
theorem nlt_of {j : Nat} (h : j + 0 = 4) : ¬ (j : Int) < 4 := by omega
theorem lt_four {j g : Nat} (h : j + (g + 1) = 4) : j < 4 := by omega
theorem len_next {a b i : Nat} (h : a = 4 * i) (h2 : b = 4) : a + b = 4 * (i + 1) := by omega
theorem ab_nums {a b : Nat} (ha : a < 16) (hb : b < 16) : wrap64 (16 * (a : Int)) = 16 * (a : Int) ∧ wrap64 (16 * (a : Int) + (b : Int)) = 16 * (a : Int) + (b : Int) := by
  constructor <;> (unfold wrap64; omega)
set_option maxRecDepth 1000000 in
set_option maxHeartbeats 4000000 in
theorem rf_digest {L : List Po.Tok} {vl : Value} {A2 : Option Addr} {n2 cN : Nat} {B : Nat} (k : Int) (w : World) (hB : B ≤ w.heap.size) (h : RToks w B vl L) (hL : L.length ≤ 100000) (hk : Po.Pos L k) :
    Calls Tryz.prog 96 #[.agg #[vl, .int .i64 k, .slice A2 n2 cN]] w (DigR L k vl (.slice A2 n2 cN) w) := by
  obtain ⟨A, c, rfl, -, -⟩ := h.form
  obtain ⟨nl, hnl⟩ : ∃ n, L.length = n := ⟨_, rfl⟩
  rw [hnl] at h ⊢
  obtain ⟨S, hS⟩ : ∃ S, DigR L k (.slice A nl c) (.slice A2 n2 cN) w = S := ⟨_, rfl⟩
  rw [hS]
  obtain ⟨T, N, R, K, LT⟩ := letters
  obtain ⟨W, hW⟩ : ∃ W, (((w.alloc (.cells #[.slice A nl c, .int .i64 k, .slice A2 n2 cN] 57)).alloc (.cells (digCells []) 65)).alloc (.cells #[.slice none 0 0, .int .i64 0, .slice none 0 0] 57)).alloc (.cells (digCells []) 65) = W := ⟨_, rfl⟩
  obtain ⟨e1, e2, e3, e4, hbW, hsW⟩ := four_new W hW
  have HM0 := Lib.hid (DgMem.mk e1 e2 e3 e4 hbW (Nat.le_of_eq hsW.symm))
  have HTK := Lib.hid (And.intro hB (And.intro h hL))
  have HST := Lib.hid (show DgAt L k k 4 [] by
    rcases Int.lt_or_le k 0 with h0 | h0
    · exact .inr ⟨by have := hk.1; omega, by rw [Po.rest_nil (.inl h0)]; rfl⟩
    · exact .inl ⟨h0, hk, by simp⟩)
  clear e1 e2 e3 e4 hbW hsW hB h hL hnl hk
  go_enter Tryz.func96, Tryz.ntmps96
  go_upto_region 2 with fail
  change Code.wp _ _ _ _ ((((w.alloc (.cells #[.slice A nl c, .int .i64 k, .slice A2 n2 cN] 57)).alloc (.cells (digCells []) 65)).alloc (.cells #[.slice none 0 0, .int .i64 0, .slice none 0 0] 57)).alloc (.cells (digCells []) 65))
  rw [hW]
  clear hW
  go_wp2_with fail
  go_loopg [5] 4 (fun g s5 wr => ∃ (i : Nat) (k1 : Int) (d : List Nat), i + g = 4 ∧ s5 = .int .i64 i ∧ Hid (DgMem w wr (.slice A nl c) (.slice A2 n2 cN) k1 d) ∧ Hid (d.length = 4 * i ∧ DgAt L k k1 g d))
  case atStart => exact ⟨0, k, [], rfl, rfl, HM0, Lib.hid ⟨rfl, HST.out⟩⟩
  case round =>
    clear HM0 HST
    obtain ⟨i, k1, d, hig, rfl, HM, HA⟩ := hrel
    obtain ⟨x0, x1, x2, xz⟩ := three_cells HM.out.x
    rcases HA.out.2 with hga | hba
    rotate_left
    · have hk1 : k1 = -1 := hba.1
      subst hk1
      have HX := Lib.hid (hba.2)
      have hnk : ¬ (0 : Int) ≤ -1 := by omega
      clear hba
      cases gk with
      | zero =>
        have hi4 : ¬ (i : Int) < 4 := by omega
        have HD := Lib.hid (show d.length ≤ 16 by have := HA.out.1; omega)
        go_upto_region 21 with fail
        refine wp_pair rfl (HM.out.pair HD.out) (by decide) (by simp) rfl rfl rfl rfl (fun a' h1 h2 h3 => ?_)
        rename_i K0 hK0
        exact hK0 _ _ (pair_fin (HM.out.pair HD.out) rfl h1 h2 h3 rfl rfl Tryz.results96 (fun _ _ h => h) (by rw [← hS]; exact HM.out.says HD.out (by rw [HX.out]; rfl)))
      | succ g =>
        have hi4 : (i : Int) < 4 := by omega
        have HD := Lib.hid (show d.length ≤ 16 by have := HA.out.1; omega)
        go_upto_region 21 with fail
        refine wp_pair rfl (HM.out.pair HD.out) (by decide) (by simp) rfl rfl rfl rfl (fun a' h1 h2 h3 => ?_)
        rename_i K0 hK0
        exact hK0 _ _ (pair_fin (HM.out.pair HD.out) rfl h1 h2 h3 rfl rfl Tryz.results96 (fun _ _ h => h) (by rw [← hS]; exact HM.out.says HD.out (by rw [HX.out]; rfl)))
    · cases gk with
      | zero =>
        have hi4 : ¬ (i : Int) < 4 := by omega
        have HD := Lib.hid (show d.length ≤ 16 by have := HA.out.1; omega)
        have HF := Lib.hid (DgAt.fin (.inl hga) (by have := HA.out.1; omega))
        clear hga
        go_upto_region 21 with fail
        refine wp_pair rfl (HM.out.pair HD.out) (by decide) (by simp) rfl rfl rfl rfl (fun a' h1 h2 h3 => ?_)
        rename_i K0 hK0
        exact hK0 _ _ (pair_fin (HM.out.pair HD.out) rfl h1 h2 h3 rfl rfl Tryz.results96 (fun _ _ h => h) (by rw [← hS]; exact HM.out.says HD.out HF.out))
      | succ g =>
        obtain ⟨hk0, hkp, hkd⟩ := hga
        have hi4 : (i : Int) < 4 := by omega
        have HK := Lib.hid (And.intro hkp hkd)
        clear hkp hkd
        obtain ⟨x, hxe⟩ : ∃ x, (rmust L k1 1 []).1 = x := ⟨_, rfl⟩
        obtain ⟨k2, hk2⟩ : ∃ k2, (rmust L k1 1 []).2 = k2 := ⟨_, rfl⟩
        have HRR := Lib.hid (show RR L (Po.must 1 [] (Po.rest L k1)) x k2 by rw [← hxe, ← hk2]; exact rmust_rr _ _ _ _)
        have HMU := Lib.hid (rf_must (L := L) (A2 := A2) (n2 := n2) (cN := cN) k1 1 ⟨#[]⟩ wr (Nat.le_trans HTK.out.1 HM.out.bel.size) (HTK.out.2.1.below (HM.out.bel.mono HTK.out.1)) HTK.out.2.2)
        simp only [hxe, hk2] at HMU
        obtain ⟨t, ht⟩ : ∃ t : ByteArray, (⟨x.t.toArray⟩ : ByteArray) = t := ⟨_, rfl⟩
        have htd : t.data.toList = x.t := by rw [← ht]
        have HT := Lib.hid (And.intro htd (show x.t.length = t.size by rw [← htd]; simp))
        have HNE := Lib.hid (show x.t.length = 9 → Po.must 1 [] (Po.rest L k1) ≠ none from fun h hn => by rw [← hxe, rmust_text hn] at h; cases h)
        clear hxe hk2 htd
        go_upto_region 6 with (go_at_call 74; refine HMU.out.mono ?_; rintro e w2 ⟨a2, rfl, hb2⟩; have HB2 := Lib.hid hb2; clear hb2)
        obtain ⟨W6, hW6⟩ : ∃ W6, (w2.alloc (.cells #[.int .i64 x.k, .string t, .int .i64 x.n, .int .i64 a2] 62)).alloc (.cells #[.slice A nl c, .int .i64 k2, .slice A2 n2 cN] 57) = W6 := ⟨_, rfl⟩
        rw [hW6]
        obtain ⟨q1, q2, hB6, hs6⟩ := two_boxes W6 hW6
        have HM6 := Lib.hid ((HM.out.below HB2.out).below hB6)
        obtain ⟨y0, y1, y2, yz⟩ := three_cells q2
        clear x0 x1 x2 xz
        obtain ⟨x0, x1, x2, xz⟩ := three_cells HM6.out.x
        obtain ⟨tb, htb⟩ : ∃ tb, w2.heap.size = tb := ⟨_, rfl⟩
        rw [htb] at q1 q2 y0 y1 y2 yz ⊢
        have HTB := Lib.hid (show w.heap.size + 1 + 1 + 1 < tb by have := HM.out.sz; have := HB2.out.size; omega)
        have HQ1 := Lib.hid q1
        clear q1 q2 hB6 hs6 hW6 htb
        go_upto_region 7 with fail
        rw [put3]
        have HM7 := Lib.hid (HM6.out.setX k2)
        have q1 : (putRow W6 w.heap.size #[.slice A nl c, .int .i64 k2, .slice A2 n2 cN]).heap[tb]? = some (.cells #[.int .i64 x.k, .string t, .int .i64 x.n, .int .i64 a2] 62 (0, 0)) := (put_other (by have := HTB.out; omega)).trans HQ1.out
        clear x0 x1 x2 xz y0 y1 y2 yz
        revert q1 HM7
        generalize putRow W6 w.heap.size #[.slice A nl c, .int .i64 k2, .slice A2 n2 cN] = W7
        intro HM7 q1
        clear HQ1 HM6
        obtain ⟨t0, t1, t2, t3, tz⟩ := four_cells q1
        obtain ⟨x0, x1, x2, xz⟩ := three_cells HM7.out.x
        clear t0 t2 t3 tz
        have HTC := Lib.hid t1
        by_cases h9 : t.size = 9
        rotate_left
        · have e1 : ((t.size : Int) != 9) = true := by simp; omega
          have HX := Lib.hid (show Po.digestF 4 (Po.rest L k) = none by
            rw [HK.out.2, dig_bad HRR.out (Po.word4_not (fun hh => h9 (HT.out.2.symm.trans hh.1)))]; rfl)
          have HD := Lib.hid (show d.length ≤ 16 by have := HA.out.1; omega)
          clear h9
          go_upto_region 9 with fail
          have HM8 := Lib.hid (HM7.out.setK (-1))
          refine wp_pair rfl (HM8.out.pair HD.out) (by decide) (by simp) rfl rfl rfl rfl (fun a' h1 h2 h3 => ?_)
          rename_i K0 hK0
          exact hK0 _ _ (pair_fin (HM8.out.pair HD.out) rfl h1 h2 h3 rfl rfl Tryz.results96 (fun _ _ h => h) (by rw [← hS]; exact HM8.out.says HD.out (by rw [HX.out]; rfl)))
        have e1 : ((t.size : Int) != 9) = false := by simp; omega
        have hz0 : 0 < t.size := by omega
        have hq0 : 0 ≤ (0 : Int) ∧ (0 : Int) < t.size := by omega
        have HS9 := Lib.hid h9
        have HI4 := Lib.hid (show i < 4 by omega)
        have HIG := Lib.hid hig
        have HI1 := Lib.hid (show wrap64 ((i : Int) + 1) = (i : Int) + 1 by have := HI4.out; unfold wrap64; omega)
        have HLEN := Lib.hid (show x.t.length = 9 from HT.out.2.trans h9)
        have HSZ := Lib.hid HM7.out.sz
        clear h9
        have hgo : ∃ kk, Hid (∀ j, j < 4 → Po.byteAt x.t j = none → Po.digestF 4 (Po.rest L k) = none) ∧ Hid (∀ d2 : List Nat, d2.length = 4 → (∀ j, j < 4 → ∃ b, d2[j]? = some b ∧ Po.byteAt x.t j = some b) → DgAt L k kk g (d ++ d2)) ∧ ((kk = k2 ∧ (((t[0]'hz0).toNat : Int) != 120) = false) ∨ (kk = -1 ∧ (((t[0]'hz0).toNat : Int) != 120) = true)) := by
          by_cases h120 : (t[0]'hz0) = 120
          · have hhead : x.t.head? = some 120 := by
              rw [← HT.out.1, List.head?_eq_getElem?, Po.at_byte hz0, h120]
            refine ⟨k2, Lib.hid fun j hj hb => ?_, Lib.hid fun d2 h4 hb => ?_, by rw [h120]; exact .inl ⟨rfl, rfl⟩⟩
            · rw [HK.out.2, dig_bad HRR.out (Po.word4_none (k := j) HLEN.out hhead hj hb)]; rfl
            · obtain ⟨c0, c1, c2⟩ := dig_good (g := g) HRR.out (HNE.out HLEN.out) (Po.word4_some HLEN.out hhead h4 hb)
              refine .inl ⟨c0, c1, ?_⟩
              rw [HK.out.2, c2, Option.map_map]
              congr 1
              funext y
              simp
          · have hne : (((t[0]'hz0).toNat : Int) != 120) = true := by
              simp only [bne_iff_ne, ne_eq]
              intro e
              apply h120
              rw [Po.eq_iff8]
              have : (120 : UInt8).toNat = 120 := rfl
              omega
            have hbad : Po.digestF 4 (Po.rest L k) = none := by
              rw [HK.out.2, dig_bad HRR.out (Po.word4_not (fun hh => by
                have h := hh.2
                rw [← HT.out.1, List.head?_eq_getElem?, Po.at_byte hz0] at h
                simp at h
                exact h120 h))]
              rfl
            exact ⟨-1, Lib.hid fun j hj hb => hbad, Lib.hid fun d2 h4 hb => .inr ⟨rfl, hbad⟩, .inr ⟨rfl, hne⟩⟩
        obtain ⟨kk, HFAIL, HGO, hkk⟩ := hgo
        rcases hkk with ⟨hkk, e2⟩ | ⟨hkk, e2⟩
        · rw [hkk] at HGO
          clear hkk
          go_upto_region 12 with fail
          have HMK := HM7
          have HTD := HTC
          clear t1 x0 x1 x2 xz
          go_wp2_with fail
          go_loopg [8] 4 (fun g2 s8 wy => ∃ (j : Nat) (d2 : List Nat), j + g2 = 4 ∧ s8 = .int .i64 j ∧ Hid (DgMem w wy (.slice A nl c) (.slice A2 n2 cN) k2 (d ++ d2)) ∧ Hid (wy.cell? ⟨tb, 1, none⟩ = some (.string t)) ∧ Hid (d2.length = j ∧ ∀ q, q < j → ∃ b, d2[q]? = some b ∧ Po.byteAt x.t q = some b))
          case atStart => exact ⟨0, [], rfl, rfl, Lib.hid (by rw [List.append_nil]; exact HMK.out), HTD, Lib.hid ⟨rfl, fun q hq => absurd hq (Nat.not_lt_zero q)⟩⟩
          case round =>
            clear HMK HTD
            obtain ⟨j, d2, hjg, rfl, HMJ, HTJ, HJ⟩ := hrel
            have t1 := HTJ.out
            cases gk with
            | zero =>
              have hj4 : ¬ (j : Int) < 4 := nlt_of hjg
              have hi1 := HI1.out
              have HX := Lib.hid (HGO.out d2 (HJ.out.1.trans hjg) (fun q hq => HJ.out.2 q (Nat.lt_of_lt_of_eq hq hjg.symm)))
              go_wp2_with fail
              go_roundg g
              case measure => exact Nat.lt_succ_self _
              case rel => exact ⟨i + 1, k2, d ++ d2, (Nat.add_right_comm i 1 g).trans HIG.out, by first | rfl | simp, HMJ, ⟨by rw [List.length_append]; exact len_next HA.out.1 (HJ.out.1.trans hjg), HX.out⟩⟩
            | succ g2 =>
              have HJ4 := Lib.hid (lt_four hjg)
              have hj4 : (j : Int) < 4 := Int.ofNat_lt.2 HJ4.out
              obtain ⟨x0, x1, x2, xz⟩ := three_cells HMJ.out.x
              go_upto_region 15 with fail
              have HJG := Lib.hid hjg
              clear hj4 hjg hi4 hig
              obtain ⟨n, hn⟩ : ∃ n, (d ++ d2).length = n := ⟨_, rfl⟩
              obtain ⟨j1, hj1e⟩ : ∃ j1, 2 * j + 1 = j1 := ⟨_, rfl⟩
              obtain ⟨j2, hj2e⟩ : ∃ j2, 2 * j + 2 = j2 := ⟨_, rfl⟩
              have hn2 : n = 4 * i + j := by rw [← hn, List.length_append, HJ.out.1, HA.out.1]
              obtain ⟨u1, u2, u3, u4, u5, u6, b1, b2, b3, -, l1, l2, l3⟩ := dig_nums HI4.out HJ4.out hn2 hj1e hj2e HS9.out
              have b1' := b1.2
              have b2' := b2.2
              have b3' := b3.2
              have y1 := fun W => index_str l1 W
              have y2 := fun W => index_str l2 W
              have hby := Lib.hid (byte_at HT.out.1 hj1e hj2e l1 l2)
              have hcell := dig_cell (d := d ++ d2) HMJ.out.d (by rw [hn]; exact l3)
              rw [hn] at hcell
              obtain ⟨⟨z0, hz1⟩, hzf⟩ := hcell
              have HN := Lib.hid (And.intro hn (And.intro hn2 (And.intro l3 (Nat.le_of_lt l3))))
              clear hn hn2 hj1e hj2e
              cases hA : Po.hexd (t[j1]'l1) with
              | none =>
                have hAV := hexV_none hA
                have HX := Lib.hid (HFAIL.out j HJ4.out (by rw [hby.out, hA]; rfl))
                have cA := fun W => rf_digit (t[j1]'l1) W
                have cB := fun W => rf_digit (t[j2]'l2) W
                rw [hAV] at cA
                have hneg : (-1 : Int) < 0 := by decide
                clear hA hby u6 hAV
                go_upto_region 19 with (first
                  | (go_at_call 116; (with_reducible refine (cA _).mono ?_); rintro e w' ⟨rfl, hw⟩; subst hw)
                  | (go_at_call 116; (with_reducible refine (cB _).mono ?_); rintro e w' ⟨rfl, hw⟩; subst hw))
                have HM9 := Lib.hid (HMJ.out.setK (-1))
                have HD9 := Lib.hid (show (d ++ d2).length ≤ 16 by rw [HN.out.1]; exact HN.out.2.2.2)
                refine wp_pair rfl (HM9.out.pair HD9.out) (by decide) (by simp) rfl rfl rfl rfl (fun a' h1 h2 h3 => ?_)
                rename_i K0 hK0
                exact hK0 _ _ (pair_fin (HM9.out.pair HD9.out) rfl h1 h2 h3 rfl rfl Tryz.results96 (fun _ _ h => h) (by rw [← hS]; exact HM9.out.says HD9.out (by rw [HX.out]; rfl)))
              | some a =>
                have hAV := hexV_some hA
                have cA := fun W => rf_digit (t[j1]'l1) W
                have cB := fun W => rf_digit (t[j2]'l2) W
                rw [hAV] at cA
                have ha0 : ¬ (a : Int) < 0 := nneg a
                cases hB : Po.hexd (t[j2]'l2) with
                | none =>
                  have hBV := hexV_none hB
                  have HX := Lib.hid (HFAIL.out j HJ4.out (by rw [hby.out, hA, hB]; rfl))
                  rw [hBV] at cB
                  have hneg : (-1 : Int) < 0 := by decide
                  clear hA hB hby hAV hBV
                  go_upto_region 19 with (first
                    | (go_at_call 116; (with_reducible refine (cA _).mono ?_); rintro e w' ⟨rfl, hw⟩; subst hw)
                    | (go_at_call 116; (with_reducible refine (cB _).mono ?_); rintro e w' ⟨rfl, hw⟩; subst hw))
                  have HM9 := Lib.hid (HMJ.out.setK (-1))
                  have HD9 := Lib.hid (show (d ++ d2).length ≤ 16 by rw [HN.out.1]; exact HN.out.2.2.2)
                  refine wp_pair rfl (HM9.out.pair HD9.out) (by decide) (by simp) rfl rfl rfl rfl (fun a' h1 h2 h3 => ?_)
                  rename_i K0 hK0
                  exact hK0 _ _ (pair_fin (HM9.out.pair HD9.out) rfl h1 h2 h3 rfl rfl Tryz.results96 (fun _ _ h => h) (by rw [← hS]; exact HM9.out.says HD9.out (by rw [HX.out]; rfl)))
                | some b =>
                  have hBV := hexV_some hB
                  rw [hBV] at cB
                  have hb0 : ¬ (b : Int) < 0 := nneg b
                  have HV := Lib.hid (show Po.byteAt x.t j = some (16 * a + b) by rw [hby.out, hA, hB]; rfl)
                  have HAB := Lib.hid (rf_byte (Po.hexd_lt hA) (Po.hexd_lt hB))
                  obtain ⟨v1, v2⟩ := ab_nums (Po.hexd_lt hA) (Po.hexd_lt hB)
                  clear hA hB hby hAV hBV
                  go_upto_region 20 with (first
                    | (go_at_call 116; (with_reducible refine (cA _).mono ?_); rintro e w' ⟨rfl, hw⟩; subst hw)
                    | (go_at_call 116; (with_reducible refine (cB _).mono ?_); rintro e w' ⟨rfl, hw⟩; subst hw))
                  go_upto_region 14 with fail
                  rw [HAB.out]
                  have HM9 := Lib.hid (HMJ.out.setD (16 * a + b) HN.out.1 HN.out.2.2.1)
                  have HT9 := Lib.hid ((World.cell?_of_block (a := ⟨tb, 1, none⟩) (set_other w' (w.heap.size + 1 + 1 + 1) n (.int .u8 ((16 * a + b : Nat) : Int)) tb (Nat.ne_of_gt HTB.out))).trans HTJ.out)
                  rw [List.append_assoc] at HM9
                  clear hz1 hzf cA cB y1 y2 u1 u2 u3 u4 u5 v1 v2 b1 b2 b3 b1' b2' b3' x0 x1 x2 xz t1
                  revert HM9 HT9
                  generalize w'.setCell ⟨w.heap.size + 1 + 1 + 1, n, none⟩ (.int .u8 ((16 * a + b : Nat) : Int)) = W9
                  intro HM9 HT9
                  go_wp2_with fail
                  go_roundg g2
                  case measure => exact Nat.lt_succ_self _
                  case rel => exact ⟨j + 1, d2 ++ [16 * a + b], (Nat.add_right_comm j 1 g2).trans HJG.out, by first | rfl | simp [u6], HM9, HT9, Lib.hid ⟨by rw [List.length_append, HJ.out.1]; rfl, fun q hq => by
                    by_cases h : q < j
                    · obtain ⟨c, h1, h2⟩ := HJ.out.2 q h
                      exact ⟨c, by rw [List.getElem?_append_left (by rw [HJ.out.1]; exact h)]; exact h1, h2⟩
                    · have hjk : q = j := Nat.le_antisymm (Nat.le_of_lt_succ hq) (Nat.le_of_not_lt h)
                      subst hjk
                      exact ⟨16 * a + b, by rw [← HJ.out.1]; simp, HV.out⟩⟩⟩
        · subst hkk
          go_upto_region 12 with fail
          have HMK := Lib.hid (HM7.out.setK (-1))
          have HTD := Lib.hid ((World.cell?_of_block (a := ⟨tb, 1, none⟩) (set_other W7 w.heap.size 1 (.int .i64 (-1)) tb (by have := HTB.out; omega))).trans HTC.out)
          clear t1 x0 x1 x2 xz
          revert HMK HTD
          generalize W7.setCell ⟨w.heap.size, 1, none⟩ (.int .i64 (-1)) = W8
          intro HMK HTD
          go_wp2_with fail
          go_loopg [8] 4 (fun g2 s8 wy => ∃ (j : Nat) (d2 : List Nat), j + g2 = 4 ∧ s8 = .int .i64 j ∧ Hid (DgMem w wy (.slice A nl c) (.slice A2 n2 cN) (-1) (d ++ d2)) ∧ Hid (wy.cell? ⟨tb, 1, none⟩ = some (.string t)) ∧ Hid (d2.length = j ∧ ∀ q, q < j → ∃ b, d2[q]? = some b ∧ Po.byteAt x.t q = some b))
          case atStart => exact ⟨0, [], rfl, rfl, Lib.hid (by rw [List.append_nil]; exact HMK.out), HTD, Lib.hid ⟨rfl, fun q hq => absurd hq (Nat.not_lt_zero q)⟩⟩
          case round =>
            clear HMK HTD
            obtain ⟨j, d2, hjg, rfl, HMJ, HTJ, HJ⟩ := hrel
            have t1 := HTJ.out
            cases gk with
            | zero =>
              have hj4 : ¬ (j : Int) < 4 := nlt_of hjg
              have hi1 := HI1.out
              have HX := Lib.hid (HGO.out d2 (HJ.out.1.trans hjg) (fun q hq => HJ.out.2 q (Nat.lt_of_lt_of_eq hq hjg.symm)))
              go_wp2_with fail
              go_roundg g
              case measure => exact Nat.lt_succ_self _
              case rel => exact ⟨i + 1, (-1), d ++ d2, (Nat.add_right_comm i 1 g).trans HIG.out, by first | rfl | simp, HMJ, ⟨by rw [List.length_append]; exact len_next HA.out.1 (HJ.out.1.trans hjg), HX.out⟩⟩
            | succ g2 =>
              have HJ4 := Lib.hid (lt_four hjg)
              have hj4 : (j : Int) < 4 := Int.ofNat_lt.2 HJ4.out
              obtain ⟨x0, x1, x2, xz⟩ := three_cells HMJ.out.x
              go_upto_region 15 with fail
              have HJG := Lib.hid hjg
              clear hj4 hjg hi4 hig
              obtain ⟨n, hn⟩ : ∃ n, (d ++ d2).length = n := ⟨_, rfl⟩
              obtain ⟨j1, hj1e⟩ : ∃ j1, 2 * j + 1 = j1 := ⟨_, rfl⟩
              obtain ⟨j2, hj2e⟩ : ∃ j2, 2 * j + 2 = j2 := ⟨_, rfl⟩
              have hn2 : n = 4 * i + j := by rw [← hn, List.length_append, HJ.out.1, HA.out.1]
              obtain ⟨u1, u2, u3, u4, u5, u6, b1, b2, b3, -, l1, l2, l3⟩ := dig_nums HI4.out HJ4.out hn2 hj1e hj2e HS9.out
              have b1' := b1.2
              have b2' := b2.2
              have b3' := b3.2
              have y1 := fun W => index_str l1 W
              have y2 := fun W => index_str l2 W
              have hby := Lib.hid (byte_at HT.out.1 hj1e hj2e l1 l2)
              have hcell := dig_cell (d := d ++ d2) HMJ.out.d (by rw [hn]; exact l3)
              rw [hn] at hcell
              obtain ⟨⟨z0, hz1⟩, hzf⟩ := hcell
              have HN := Lib.hid (And.intro hn (And.intro hn2 (And.intro l3 (Nat.le_of_lt l3))))
              clear hn hn2 hj1e hj2e
              cases hA : Po.hexd (t[j1]'l1) with
              | none =>
                have hAV := hexV_none hA
                have HX := Lib.hid (HFAIL.out j HJ4.out (by rw [hby.out, hA]; rfl))
                have cA := fun W => rf_digit (t[j1]'l1) W
                have cB := fun W => rf_digit (t[j2]'l2) W
                rw [hAV] at cA
                have hneg : (-1 : Int) < 0 := by decide
                clear hA hby u6 hAV
                go_upto_region 19 with (first
                  | (go_at_call 116; (with_reducible refine (cA _).mono ?_); rintro e w' ⟨rfl, hw⟩; subst hw)
                  | (go_at_call 116; (with_reducible refine (cB _).mono ?_); rintro e w' ⟨rfl, hw⟩; subst hw))
                have HM9 := Lib.hid (HMJ.out.setK (-1))
                have HD9 := Lib.hid (show (d ++ d2).length ≤ 16 by rw [HN.out.1]; exact HN.out.2.2.2)
                refine wp_pair rfl (HM9.out.pair HD9.out) (by decide) (by simp) rfl rfl rfl rfl (fun a' h1 h2 h3 => ?_)
                rename_i K0 hK0
                exact hK0 _ _ (pair_fin (HM9.out.pair HD9.out) rfl h1 h2 h3 rfl rfl Tryz.results96 (fun _ _ h => h) (by rw [← hS]; exact HM9.out.says HD9.out (by rw [HX.out]; rfl)))
              | some a =>
                have hAV := hexV_some hA
                have cA := fun W => rf_digit (t[j1]'l1) W
                have cB := fun W => rf_digit (t[j2]'l2) W
                rw [hAV] at cA
                have ha0 : ¬ (a : Int) < 0 := nneg a
                cases hB : Po.hexd (t[j2]'l2) with
                | none =>
                  have hBV := hexV_none hB
                  have HX := Lib.hid (HFAIL.out j HJ4.out (by rw [hby.out, hA, hB]; rfl))
                  rw [hBV] at cB
                  have hneg : (-1 : Int) < 0 := by decide
                  clear hA hB hby hAV hBV
                  go_upto_region 19 with (first
                    | (go_at_call 116; (with_reducible refine (cA _).mono ?_); rintro e w' ⟨rfl, hw⟩; subst hw)
                    | (go_at_call 116; (with_reducible refine (cB _).mono ?_); rintro e w' ⟨rfl, hw⟩; subst hw))
                  have HM9 := Lib.hid (HMJ.out.setK (-1))
                  have HD9 := Lib.hid (show (d ++ d2).length ≤ 16 by rw [HN.out.1]; exact HN.out.2.2.2)
                  refine wp_pair rfl (HM9.out.pair HD9.out) (by decide) (by simp) rfl rfl rfl rfl (fun a' h1 h2 h3 => ?_)
                  rename_i K0 hK0
                  exact hK0 _ _ (pair_fin (HM9.out.pair HD9.out) rfl h1 h2 h3 rfl rfl Tryz.results96 (fun _ _ h => h) (by rw [← hS]; exact HM9.out.says HD9.out (by rw [HX.out]; rfl)))
                | some b =>
                  have hBV := hexV_some hB
                  rw [hBV] at cB
                  have hb0 : ¬ (b : Int) < 0 := nneg b
                  have HV := Lib.hid (show Po.byteAt x.t j = some (16 * a + b) by rw [hby.out, hA, hB]; rfl)
                  have HAB := Lib.hid (rf_byte (Po.hexd_lt hA) (Po.hexd_lt hB))
                  obtain ⟨v1, v2⟩ := ab_nums (Po.hexd_lt hA) (Po.hexd_lt hB)
                  clear hA hB hby hAV hBV
                  go_upto_region 20 with (first
                    | (go_at_call 116; (with_reducible refine (cA _).mono ?_); rintro e w' ⟨rfl, hw⟩; subst hw)
                    | (go_at_call 116; (with_reducible refine (cB _).mono ?_); rintro e w' ⟨rfl, hw⟩; subst hw))
                  go_upto_region 14 with fail
                  rw [HAB.out]
                  have HM9 := Lib.hid (HMJ.out.setD (16 * a + b) HN.out.1 HN.out.2.2.1)
                  have HT9 := Lib.hid ((World.cell?_of_block (a := ⟨tb, 1, none⟩) (set_other w' (w.heap.size + 1 + 1 + 1) n (.int .u8 ((16 * a + b : Nat) : Int)) tb (Nat.ne_of_gt HTB.out))).trans HTJ.out)
                  rw [List.append_assoc] at HM9
                  clear hz1 hzf cA cB y1 y2 u1 u2 u3 u4 u5 v1 v2 b1 b2 b3 b1' b2' b3' x0 x1 x2 xz t1
                  revert HM9 HT9
                  generalize w'.setCell ⟨w.heap.size + 1 + 1 + 1, n, none⟩ (.int .u8 ((16 * a + b : Nat) : Int)) = W9
                  intro HM9 HT9
                  go_wp2_with fail
                  go_roundg g2
                  case measure => exact Nat.lt_succ_self _
                  case rel => exact ⟨j + 1, d2 ++ [16 * a + b], (Nat.add_right_comm j 1 g2).trans HJG.out, by first | rfl | simp [u6], HM9, HT9, Lib.hid ⟨by rw [List.length_append, HJ.out.1]; rfl, fun q hq => by
                    by_cases h : q < j
                    · obtain ⟨c, h1, h2⟩ := HJ.out.2 q h
                      exact ⟨c, by rw [List.getElem?_append_left (by rw [HJ.out.1]; exact h)]; exact h1, h2⟩
                    · have hjk : q = j := Nat.le_antisymm (Nat.le_of_lt_succ hq) (Nat.le_of_not_lt h)
                      subst hjk
                      exact ⟨16 * a + b, by rw [← HJ.out.1]; simp, HV.out⟩⟩⟩
end Go.Proofs.YtdolpmmnjndfkaaGreatDoor
