/- Chapter 29, the walk: how the reference hands back two structs; Depth, is, must, digit of the reference. -/
import Derived.Test.YtdolpmmnjndfkaaGreatDoorPoRfA
import Derived.Test.YtdolpmmnjndfkaaGreatDoorPoLet
import Derived.Test.YtdolpmmnjndfkaaGreatDoorPoPaB
import Derived.Deep.MidRow
import Derived.Great.Frames
namespace Go.Proofs.YtdolpmmnjndfkaaGreatDoor
open Go.RowKit
/-- 'return x, y': two structs are loaded and laid into the results, in an order that is drawn -/
def pairOps (A B x1 x2 s1 s2 r1 r2 : Nat) (p : String) : Array Oper :=
  #[{ dst := some s1, op := .load A (.tmp x1), type := A, pos := p, after := #[], guard := none },
    { dst := some s2, op := .load B (.tmp x2), type := B, pos := p, after := #[{ on := 2, ground := .gcOnly .lateStores }], guard := none },
    { dst := none, op := .store A (.tmp r1) (.tmp s1), type := 0, pos := p, after := #[{ on := 0, ground := .data }, { on := 0, ground := .phase }, { on := 1, ground := .textOnly .lateStores }], guard := none },
    { dst := none, op := .store B (.tmp r2) (.tmp s2), type := 0, pos := p, after := #[{ on := 1, ground := .data }, { on := 2, ground := .chain }, { on := 0, ground := .phase }, { on := 1, ground := .phase }, { on := 2, ground := .phase }], guard := none }]
section
variable {A B x1 x2 s1 s2 r1 r2 : Nat} {p : String}
theorem pair_r0 : Region.ready .any (pairOps A B x1 x2 s1 s2 r1 r2 p) #[false, false, false, false] = [0, 1] := by kernel_rfl
theorem pair_r1 : Region.ready .any (pairOps A B x1 x2 s1 s2 r1 r2 p) #[true, false, false, false] = [1, 2] := by kernel_rfl
theorem pair_r2 : Region.ready .any (pairOps A B x1 x2 s1 s2 r1 r2 p) #[false, true, false, false] = [0] := by kernel_rfl
theorem pair_r3 : Region.ready .any (pairOps A B x1 x2 s1 s2 r1 r2 p) #[true, true, false, false] = [2] := by kernel_rfl
theorem pair_r4 : Region.ready .any (pairOps A B x1 x2 s1 s2 r1 r2 p) #[true, false, true, false] = [1] := by kernel_rfl
theorem pair_r5 : Region.ready .any (pairOps A B x1 x2 s1 s2 r1 r2 p) #[true, true, true, false] = [3] := by kernel_rfl
theorem pair_r6 : Region.ready .any (pairOps A B x1 x2 s1 s2 r1 r2 p) #[true, true, true, true] = [] := by kernel_rfl
variable {P : Program} {Q : Exit → Act → World → Prop} {a : Act} {W : World} {cs ys za zb : Array Value} {b1 b2 c1 c2 : Nat}
theorem pair_get (i : Nat) (o : Oper) (h : (pairOps A B x1 x2 s1 s2 r1 r2 p)[i]? = some o) (hg : o.guard = none) {K : Act → World → Prop} (hw : o.wp P a W K Q) : wpOp P (pairOps A B x1 x2 s1 s2 r1 r2 p) Q i K a W := by
  unfold wpOp
  rw [h]
  simp only
  rw [if_pos (by simp [Region.wanted, hg])]
  exact .inl hw
/-- the memory facts of the two structs and of the two results -/
structure PairAt (P : Program) (W : World) (A B b1 b2 c1 c2 : Nat) (cs ys za zb : Array Value) : Prop where
  h1 : W.heap[b1]? = some (.cells cs A (0, 0))
  h2 : W.heap[b2]? = some (.cells ys B (0, 0))
  h3 : W.heap[c1]? = some (.cells za A (0, 0))
  h4 : W.heap[c2]? = some (.cells zb B (0, 0))
  z1 : za.size = cs.size
  z2 : zb.size = ys.size
  o1 : cs.all (·.oneCell') = true
  o2 : ys.all (·.oneCell') = true
  n1 : b2 ≠ c1
  n2 : c2 ≠ c1
  uA : ∃ d, P.underlying A = some d ∧ d.isRow = true
  uB : ∃ d, P.underlying B = some d ∧ d.isRow = true
  iA : (P.info? A).map (·.size) = some cs.size
  iB : (P.info? B).map (·.size) = some ys.size
def pairW (W : World) (c1 c2 : Nat) (cs ys : Array Value) : World := putRow (putRow W.drew c1 cs) c2 ys
theorem wp_pair {id : Nat} (hm : P.follows .mixedOrders = true) (hW : PairAt P W A B b1 b2 c1 c2 cs ys za zb)
    (hs : s1 ≠ s2 ∧ s1 ≠ x1 ∧ s1 ≠ x2 ∧ s2 ≠ x1 ∧ s2 ≠ x2 ∧ s1 ≠ r1 ∧ s1 ≠ r2 ∧ s2 ≠ r1 ∧ s2 ≠ r2) (hz : s1 < a.tmps.size ∧ s2 < a.tmps.size)
    (e1 : a.eval (.tmp x1) = .pointer (some ⟨b1, 0, none⟩)) (e2 : a.eval (.tmp x2) = .pointer (some ⟨b2, 0, none⟩)) (e3 : a.eval (.tmp r1) = .pointer (some ⟨c1, 0, none⟩)) (e4 : a.eval (.tmp r2) = .pointer (some ⟨c2, 0, none⟩))
    (h : ∀ a' : Act, a'.defers = a.defers → a'.eval (.tmp r1) = a.eval (.tmp r1) → a'.eval (.tmp r2) = a.eval (.tmp r2) → Q .normal a' (pairW W c1 c2 cs ys)) :
    (Code.region id (pairOps A B x1 x2 s1 s2 r1 r2 p) true).wp P Q a W := by
  obtain ⟨g12, g11, g1x, g21, g2x, g1r, g1s, g2r, g2s⟩ := hs
  obtain ⟨dA, uA, rA⟩ := hW.uA
  obtain ⟨dB, uB, rB⟩ := hW.uB
  have hcA : (P.info? A).map (·.size) = some cs.toList.length := by simpa using hW.iA
  have hcB : (P.info? B).map (·.size) = some ys.toList.length := by simpa using hW.iB
  have ev : ∀ (a : Act) (d : Nat) (v : Value) (j : Nat), d ≠ j → (a.put (some d) v).eval (.tmp j) = a.eval (.tmp j) := fun a d v j h => Act.eval_put_ne a d j v h
  have evn : ∀ (a : Act) (v : Value) (x : Operand), (a.put none v).eval x = a.eval x := fun a v x => rfl
  -- the worlds
  have hD : ∀ k : Nat, W.drew.heap[k]? = W.heap[k]? := fun k => rfl
  have rg1 : W.drew.rangeAt b1 0 cs.toList := range_block ((hD b1).trans hW.h1)
  have rg2 : W.drew.rangeAt b2 0 ys.toList := range_block ((hD b2).trans hW.h2)
  have k2 : (putRow W.drew c1 cs).heap[b2]? = some (.cells ys B (0, 0)) := (put_other hW.n1).trans ((hD b2).trans hW.h2)
  have rg2' : (putRow W.drew c1 cs).rangeAt b2 0 ys.toList := range_block k2
  have t1 : W.drew.there c1 0 cs.size := there_block ((hD c1).trans hW.h3) (Nat.le_of_eq hW.z1.symm)
  have t2 : (putRow W.drew c1 cs).there c2 0 ys.size := there_block ((put_other hW.n2).trans ((hD c2).trans hW.h4)) (Nat.le_of_eq hW.z2.symm)
  -- the last store
  have last : ∀ a' : Act, a'.defers = a.defers → a'.eval (.tmp r1) = a.eval (.tmp r1) → a'.eval (.tmp r2) = a.eval (.tmp r2) → a'.eval (.tmp s2) = .agg ys → wpAny P .any (pairOps A B x1 x2 s1 s2 r1 r2 p) Q 1 #[true, true, true, false] a' (putRow W.drew c1 cs) := by
    intro a' hd h3 h4 hv
    refine wpAny_all pair_r5 (by simp) fun i hi => ?_
    obtain rfl : i = 3 := by simpa using hi
    refine pair_get 3 _ rfl rfl (wp_store_mid B (.tmp r2) (.tmp s2) rfl c2 0 ys (h4.trans e4) hv t2 hW.iB hW.o2 ?_)
    exact wpAny_done pair_r6 (h _ hd h3 h4) 0
  refine wp_region_any hm ?_
  show wpAny P .any (pairOps A B x1 x2 s1 s2 r1 r2 p) Q 4 #[false, false, false, false] a W.drew
  refine wpAny_all pair_r0 (by simp) fun i hi => ?_
  have hi' : i = 0 ∨ i = 1 := by simpa using hi
  rcases hi' with rfl | rfl
  · refine pair_get 0 _ rfl rfl (wp_load_mid A (.tmp x1) rfl b1 0 e1 cs.toList dA rg1 uA rA hcA ?_)
    show wpAny P .any _ Q 3 #[true, false, false, false] (a.put (some s1) (.agg cs.toList.toArray)) W.drew
    rw [Array.toArray_toList]
    refine wpAny_all pair_r1 (by simp) fun i hi => ?_
    have hi' : i = 1 ∨ i = 2 := by simpa using hi
    rcases hi' with rfl | rfl
    · refine pair_get 1 _ rfl rfl (wp_load_mid B (.tmp x2) rfl b2 0 ((ev _ _ _ _ g1x).trans e2) ys.toList dB rg2 uB rB hcB ?_)
      show wpAny P .any _ Q 2 #[true, true, false, false] ((a.put (some s1) (.agg cs)).put (some s2) (.agg ys.toList.toArray)) W.drew
      rw [Array.toArray_toList]
      refine wpAny_all pair_r3 (by simp) fun i hi => ?_
      obtain rfl : i = 2 := by simpa using hi
      refine pair_get 2 _ rfl rfl (wp_store_mid A (.tmp r1) (.tmp s1) rfl c1 0 cs ((ev _ _ _ _ g2r).trans ((ev _ _ _ _ g1r).trans e3)) ((ev _ _ _ _ (Ne.symm g12)).trans (Act.eval_put_same _ _ _ hz.1)) t1 hW.iA hW.o1 ?_)
      refine last _ rfl ((ev _ _ _ _ g2r).trans (ev _ _ _ _ g1r)) ((ev _ _ _ _ g2s).trans (ev _ _ _ _ g1s)) ?_
      exact Act.eval_put_same _ _ _ (by rw [Act.size_put]; exact hz.2)
    · refine pair_get 2 _ rfl rfl (wp_store_mid A (.tmp r1) (.tmp s1) rfl c1 0 cs ((ev _ _ _ _ g1r).trans e3) (Act.eval_put_same _ _ _ hz.1) t1 hW.iA hW.o1 ?_)
      show wpAny P .any _ Q 2 #[true, false, true, false] ((a.put (some s1) (.agg cs)).put none undef) (putRow W.drew c1 cs)
      refine wpAny_all pair_r4 (by simp) fun i hi => ?_
      obtain rfl : i = 1 := by simpa using hi
      refine pair_get 1 _ rfl rfl (wp_load_mid B (.tmp x2) rfl b2 0 ((evn _ _ _).trans ((ev _ _ _ _ g1x).trans e2)) ys.toList dB rg2' uB rB hcB ?_)
      show wpAny P .any _ Q 1 #[true, true, true, false] (((a.put (some s1) (.agg cs)).put none undef).put (some s2) (.agg ys.toList.toArray)) (putRow W.drew c1 cs)
      rw [Array.toArray_toList]
      refine last _ rfl ((ev _ _ _ _ g2r).trans ((evn _ _ _).trans (ev _ _ _ _ g1r))) ((ev _ _ _ _ g2s).trans ((evn _ _ _).trans (ev _ _ _ _ g1s))) ?_
      exact Act.eval_put_same _ _ _ (by rw [Act.size_put, Act.size_put]; exact hz.2)
  · refine pair_get 1 _ rfl rfl (wp_load_mid B (.tmp x2) rfl b2 0 e2 ys.toList dB rg2 uB rB hcB ?_)
    show wpAny P .any _ Q 3 #[false, true, false, false] (a.put (some s2) (.agg ys.toList.toArray)) W.drew
    rw [Array.toArray_toList]
    refine wpAny_all pair_r2 (by simp) fun i hi => ?_
    obtain rfl : i = 0 := by simpa using hi
    refine pair_get 0 _ rfl rfl (wp_load_mid A (.tmp x1) rfl b1 0 ((ev _ _ _ _ g21).trans e1) cs.toList dA rg1 uA rA hcA ?_)
    show wpAny P .any _ Q 2 #[true, true, false, false] ((a.put (some s2) (.agg ys)).put (some s1) (.agg cs.toList.toArray)) W.drew
    rw [Array.toArray_toList]
    refine wpAny_all pair_r3 (by simp) fun i hi => ?_
    obtain rfl : i = 2 := by simpa using hi
    refine pair_get 2 _ rfl rfl (wp_store_mid A (.tmp r1) (.tmp s1) rfl c1 0 cs ((ev _ _ _ _ g1r).trans ((ev _ _ _ _ g2r).trans e3)) (Act.eval_put_same _ _ _ (by rw [Act.size_put]; exact hz.1)) t1 hW.iA hW.o1 ?_)
    refine last _ rfl ((ev _ _ _ _ g1r).trans (ev _ _ _ _ g2r)) ((ev _ _ _ _ g1s).trans (ev _ _ _ _ g2s)) ?_
    exact (ev _ _ _ _ g12).trans (Act.eval_put_same _ _ _ hz.2)
theorem pairW_at (hW : PairAt P W A B b1 b2 c1 c2 cs ys za zb) : (pairW W c1 c2 cs ys).heap[c1]? = some (.cells cs A (0, 0)) ∧ (pairW W c1 c2 cs ys).heap[c2]? = some (.cells ys B (0, 0)) :=
  ⟨(put_other (Ne.symm hW.n2)).trans (put_same (w := W.drew) hW.h3 hW.z1.symm), put_same ((put_other hW.n2).trans hW.h4) hW.z2.symm⟩
theorem pairW_below {n : Nat} (h1 : n ≤ c1) (h2 : n ≤ c2) : Below n W (pairW W c1 c2 cs ys) := put_below (put_below ((Below.refl _ _).drew) h1) h2
theorem pairW_size : (pairW W c1 c2 cs ys).heap.size = W.heap.size := by unfold pairW; rw [size_putRow, size_putRow]; rfl
theorem loadVar_row {w : World} {b : Nat} {c : Array Value} {t : TypeId} (h : w.heap[b]? = some (.cells c t (0, 0))) (hu : ∃ d, P.underlying t = some d ∧ d.isRow = true) (hi : (P.info? t).map (·.size) = some c.size) : (loadVar t ⟨b, 0, none⟩).run P w = .ok (.agg c) w := by
  obtain ⟨d, hu, hr⟩ := hu
  have h1 := run_loadVar_mid (P := P) w b 0 t c.toList d (range_block h) hu hr (by simpa using hi)
  simpa using h1
theorem pairW_cells {A' B' : TypeId} (h3 : W.heap[c1]? = some (.cells za A' (0, 0))) (h4 : W.heap[c2]? = some (.cells zb B' (0, 0))) (z1 : za.size = cs.size) (z2 : zb.size = ys.size) (n2 : c2 ≠ c1) : (pairW W c1 c2 cs ys).heap[c1]? = some (.cells cs A' (0, 0)) ∧ (pairW W c1 c2 cs ys).heap[c2]? = some (.cells ys B' (0, 0)) :=
  ⟨(put_other (Ne.symm n2)).trans (put_same (w := W.drew) h3 z1.symm), put_same ((put_other n2).trans h4) z2.symm⟩
theorem results_two {fn : Func} {w : World} {tmps : Array Value} (hres : fn.results = #[.cell r1 A, .cell r2 B]) (f1 : tmps[r1]?.getD undef = .pointer (some ⟨c1, 0, none⟩)) (f2 : tmps[r2]?.getD undef = .pointer (some ⟨c2, 0, none⟩))
    (k1 : w.heap[c1]? = some (.cells cs A (0, 0))) (k2 : w.heap[c2]? = some (.cells ys B (0, 0))) (uA : ∃ d, P.underlying A = some d ∧ d.isRow = true) (uB : ∃ d, P.underlying B = some d ∧ d.isRow = true) (iA : (P.info? A).map (·.size) = some cs.size) (iB : (P.info? B).map (·.size) = some ys.size) :
    (results fn tmps).run P w = .ok (.tuple #[.agg cs, .agg ys]) w := by
  simp [results, hres, f1, f2, asAddr, loadVar_row k1 uA iA, loadVar_row k2 uB iB]
theorem ret_pair {id : Nat} {fn : Func} {R : Ending → World → Prop} {K : Exit → Act → World → Prop} (hm : P.follows .mixedOrders = true) (hW : PairAt P W A B b1 b2 c1 c2 cs ys za zb)
    (hs : s1 ≠ s2 ∧ s1 ≠ x1 ∧ s1 ≠ x2 ∧ s2 ≠ x1 ∧ s2 ≠ x2 ∧ s1 ≠ r1 ∧ s1 ≠ r2 ∧ s2 ≠ r1 ∧ s2 ≠ r2) (hz : s1 < a.tmps.size ∧ s2 < a.tmps.size)
    (e1 : a.eval (.tmp x1) = .pointer (some ⟨b1, 0, none⟩)) (e2 : a.eval (.tmp x2) = .pointer (some ⟨b2, 0, none⟩)) (e3 : a.eval (.tmp r1) = .pointer (some ⟨c1, 0, none⟩)) (e4 : a.eval (.tmp r2) = .pointer (some ⟨c2, 0, none⟩))
    (hd : a.defers = []) (hres : fn.results = #[.cell r1 A, .cell r2 B]) (hK : ∀ a w, bodyPost P fn R .ret a w → K .ret a w) (hq : R (.returned (.tuple #[.agg cs, .agg ys])) (pairW W c1 c2 cs ys)) :
    (Code.seq (Code.region id (pairOps A B x1 x2 s1 s2 r1 r2 p) true) Code.ret).wp P K a W := by
  refine wp_seq (wp_pair hm hW hs hz e1 e2 e3 e4 fun a' h1 h2 h3 => ?_)
  show Code.ret.wp P K a' _
  refine wp_ret (hK _ _ ?_)
  obtain ⟨k1, k2⟩ := pairW_at hW
  refine bodyPost_ret (v := .tuple #[.agg cs, .agg ys]) ?_ (h1.trans hd) hq
  have f1 : a'.tmps[r1]?.getD undef = .pointer (some ⟨c1, 0, none⟩) := by have := h2.trans e3; simpa [Act.eval] using this
  have f2 : a'.tmps[r2]?.getD undef = .pointer (some ⟨c2, 0, none⟩) := by have := h3.trans e4; simpa [Act.eval] using this
  simp [results, hres, f1, f2, asAddr, loadVar_row k1 hW.uA hW.iA, loadVar_row k2 hW.uB hW.iB]
end
/-! the functions -/
theorem three_cells {W : World} {B : Nat} {a b c : Value} {t : TypeId} (h : W.heap[B]? = some (.cells #[a, b, c] t (0, 0))) :
    W.cell? ⟨B, 0, none⟩ = some a ∧ W.cell? ⟨B, 1, none⟩ = some b ∧ W.cell? ⟨B, 2, none⟩ = some c ∧ ∀ o, W.frozen? ⟨B, o, none⟩ = false := by
  refine ⟨?_, ?_, ?_, fun o => ?_⟩ <;> simp [World.cell?, World.frozen?, h]
theorem nat_of_pos {k : Int} {n : Nat} (h0 : 0 ≤ k) (h1 : k < n) : ∃ m : Nat, k = m ∧ m < n := ⟨k.toNat, by omega, by omega⟩
theorem hits {m n : Nat} (h : m < n) : ¬ (m : Int) < 0 ∧ ¬ (n : Int) ≤ m ∧ (0 ≤ (m : Int) ∧ (m : Int) < n) ∧ (m : Int) < n := by omega
set_option maxRecDepth 1000000 in
set_option maxHeartbeats 1000000 in
theorem rf_is {L : List Po.Tok} {vl vn : Value} {B : Nat} (k : Int) (kd : Nat) (t : ByteArray) (w : World) (hB : B ≤ w.heap.size) (h : RToks w B vl L) :
    Calls Tryz.prog 55 #[.agg #[vl, .int .i64 k, vn], .int .i64 kd, .string t] w fun e w' => e = .returned (.bool (Po.isT (Po.rest L k) kd t.data.toList)) ∧ Below w.heap.size w w' := by
  obtain ⟨A, c, rfl, -, -⟩ := h.form
  have hb := Below.new (w := w) (.cells #[.slice A L.length c, .int .i64 k, vn] 57)
  cases hr : Po.rest L k with
  | nil =>
    have HX := Lib.hid (show Po.isT ([] : List Po.Tok) kd t.data.toList = false from rfl)
    have hk : k < 0 ∨ (¬ k < 0 ∧ (L.length : Int) ≤ k) := by
      rcases Int.lt_or_le k 0 with h1 | h1
      · exact .inl h1
      · right
        refine ⟨by omega, ?_⟩
        obtain ⟨n, rfl⟩ : ∃ n : Nat, k = n := ⟨k.toNat, by omega⟩
        rw [Po.rest_nat, List.drop_eq_nil_iff] at hr
        omega
    clear hr h
    rcases hk with hk | ⟨hk, hk2⟩
    all_goals
      go_enter Tryz.func55, Tryz.ntmps55
      go_wp2_with fail
      go_ret
      exact ⟨rfl, hb⟩
  | cons x r =>
    obtain ⟨h0, h1, hx, -⟩ := Po.rest_cons hr
    obtain ⟨m, rfl, hm⟩ := nat_of_pos h0 h1
    rw [Int.toNat_natCast] at hx
    obtain ⟨b, off, rfl, hbB, a, a0, a1, a2, a3⟩ := h.at hx
    obtain ⟨n, hn⟩ : ∃ n, L.length = n := ⟨_, rfl⟩
    rw [hn] at hm hb ⊢
    obtain ⟨i1, i2, i3, i4⟩ := hits hm
    have hbw : b < w.heap.size := Nat.lt_of_lt_of_le hbB hB
    have HX := Lib.hid (show Po.isT (x :: r) kd t.data.toList = (x.k == kd && (t.data.toList == [] || x.t == t.data.toList)) from rfl)
    have HB := Lib.hid hb
    clear h hr hx h0 h1 hn hm hb hB hbB
    go_enter Tryz.func55, Tryz.ntmps55
    go_wp2_with fail
    · rename_i e1 e2
      go_ret
      refine ⟨ret_bool ?_, (HB.out.alloc (Nat.le_of_lt (by simp)) _)⟩
      rw [HX.out, ← Lib.toList_data]
      have e : x.k = kd := by omega
      simp [e, e2]
    · rename_i e1 e2
      have e : x.k = kd := by omega
      go_ret
      refine ⟨ret_bool ?_, (HB.out.alloc (Nat.le_of_lt (by simp)) _)⟩
      rw [HX.out, ← Lib.toList_data, e]
      cases t.toList <;> simp
    · rename_i e1
      have e : ¬ x.k = kd := by omega
      go_ret
      refine ⟨ret_bool ?_, (HB.out.alloc (Nat.le_of_lt (by simp)) _)⟩
      rw [HX.out]
      simp [e]
theorem three_new {w : World} {a b c : Obj} : ∀ W, ((w.alloc a).alloc b).alloc c = W → W.heap[w.heap.size]? = some a ∧ W.heap[w.heap.size + 1]? = some b ∧ W.heap[w.heap.size + 1 + 1]? = some c := by
  rintro W rfl
  have e1 := heap_alloc_new (w.alloc a) b
  rw [World.size_alloc] at e1
  have e2 := heap_alloc_new ((w.alloc a).alloc b) c
  rw [World.size_alloc, World.size_alloc] at e2
  exact ⟨(Below.heap_alloc _ _ _ (by simp; omega)).trans ((Below.heap_alloc _ _ _ (by simp)).trans (heap_alloc_new _ _)), (Below.heap_alloc _ _ _ (by simp)).trans e1, e2⟩
theorem set_mid {w : World} {p : Nat} {a b c v : Value} {t : TypeId} (h : w.heap[p]? = some (.cells #[a, b, c] t (0, 0))) : (w.setCell ⟨p, 1, none⟩ v).heap[p]? = some (.cells #[a, v, c] t (0, 0)) := by
  simp only [World.setCell, Array.getElem?_modify, h]
  simp
def MustSays (x : Po.Tok) (v : Value) (w : World) (e : Ending) (w' : World) : Prop := ∃ a : Int, e = .returned (.tuple #[.agg #[.int .i64 x.k, .string ⟨x.t.toArray⟩, .int .i64 x.n, .int .i64 a], v]) ∧ Below w.heap.size w w'
theorem drew_set (W : World) (a : Addr) (v : Value) : (W.setCell a v).drew = W.drew.setCell a v := rfl
theorem pair43 (W : World) (c1 c2 : Nat) (a b c d e f g : Value) : (((((((W.setCell ⟨c1, 0, none⟩ a).setCell ⟨c1, 1, none⟩ b).setCell ⟨c1, 2, none⟩ c).setCell ⟨c1, 3, none⟩ d).setCell ⟨c2, 0, none⟩ e).setCell ⟨c2, 1, none⟩ f).setCell ⟨c2, 2, none⟩ g).drew = pairW W c1 c2 #[a, b, c, d] #[e, f, g] := by
  simp only [drew_set, pairW, putRow, World.setCells]
theorem row_tok : ∃ d, Tryz.prog.underlying 62 = some d ∧ d.isRow = true := ⟨_, Tryz.underlying62, rfl⟩
theorem row_at : ∃ d, Tryz.prog.underlying 57 = some d ∧ d.isRow = true := ⟨_, Tryz.underlying57, rfl⟩
theorem row_node : ∃ d, Tryz.prog.underlying 67 = some d ∧ d.isRow = true := ⟨_, Tryz.underlying67, rfl⟩
theorem row_dig : ∃ d, Tryz.prog.underlying 65 = some d ∧ d.isRow = true := ⟨_, Tryz.underlying65, rfl⟩
theorem size_tok : (Tryz.prog.info? 62).map (·.size) = some 4 := by kernel_rfl
theorem size_at : (Tryz.prog.info? 57).map (·.size) = some 3 := by kernel_rfl
theorem size_node : (Tryz.prog.info? 67).map (·.size) = some 21 := by kernel_rfl
theorem size_dig : (Tryz.prog.info? 65).map (·.size) = some 16 := by kernel_rfl
set_option maxRecDepth 1000000 in
set_option maxHeartbeats 2000000 in
theorem rf_must {L : List Po.Tok} {vl : Value} {A2 : Option Addr} {n2 cN : Nat} {B : Nat} (k : Int) (kd : Nat) (t : ByteArray) (w : World) (hB : B ≤ w.heap.size) (h : RToks w B vl L) (hL : L.length ≤ 100000) :
    Calls Tryz.prog 74 #[.agg #[vl, .int .i64 k, .slice A2 n2 cN], .int .i64 kd, .string t] w (MustSays (rmust L k kd t.data.toList).1 (.agg #[vl, .int .i64 (rmust L k kd t.data.toList).2, .slice A2 n2 cN]) w) := by
  obtain ⟨A, c, hvl, -, -⟩ := h.form
  obtain ⟨nl, hnl⟩ : ∃ n, L.length = n := ⟨_, rfl⟩
  rw [hnl] at hvl
  subst hvl
  obtain ⟨W, hW⟩ : ∃ W, ((w.alloc (.cells #[.slice A nl c, .int .i64 k, .slice A2 n2 cN] 57)).alloc (.cells #[.int .i64 0, .string ⟨#[]⟩, .int .i64 0, .int .i64 0] 62)).alloc (.cells #[.slice none 0 0, .int .i64 0, .slice none 0 0] 57) = W := ⟨_, rfl⟩
  have hbW : Below w.heap.size w W := by rw [← hW]; exact (((Below.refl _ _).alloc (Nat.le_refl _) _).alloc (by simp) _).alloc (by simp; omega) _
  have hsW : W.heap.size = w.heap.size + 3 := by rw [← hW]; simp
  have HBW := Lib.hid hB
  have HIS := Lib.hid (rf_is (vl := .slice A nl c) (vn := .slice A2 n2 cN) k kd t W (Nat.le_trans hB hbW.size) (h.below (hbW.mono hB)))
  cases hi : Po.isT (Po.rest L k) kd t.data.toList with
  | false =>
    rw [hi] at HIS
    have HM := Lib.hid (show rmust L k kd t.data.toList = (⟨0, [], 0⟩, -1) by unfold rmust; rw [must_isT.1 hi])
    rw [HM.out]
    obtain ⟨S, hS⟩ : ∃ S, MustSays ⟨0, [], 0⟩ (.agg #[.slice A nl c, .int .i64 (-1), .slice A2 n2 cN]) w = S := ⟨_, rfl⟩
    rw [hS]
    have HC := Lib.hid (three_new W hW)
    have HB := Lib.hid (And.intro hbW hsW)
    clear hi h hbW hB hsW hnl
    go_enter Tryz.func74, Tryz.ntmps74
    go_upto_region 1 with fail
    clear hW
    obtain ⟨c0, c1, c2, cz⟩ := three_cells HC.out.1
    go_upto_region 3 with (go_at_call 55; refine HIS.out.mono ?_; rintro e w1 ⟨rfl, hb1⟩; have HB1 := Lib.hid hb1; clear hb1)
    clear c0 c1 c2 cz
    have hc := (HB1.out.block w.heap.size (by rw [HB.out.2]; omega)).trans HC.out.1
    have hr := (HB1.out.block (w.heap.size + 1) (by rw [HB.out.2]; omega)).trans HC.out.2.1
    have hq := (HB1.out.block (w.heap.size + 1 + 1) (by rw [HB.out.2]; omega)).trans HC.out.2.2
    obtain ⟨c0, c1, c2, cz⟩ := three_cells hc
    have HH := Lib.hid (And.intro hc (And.intro hr hq))
    clear hc hr hq
    go_upto_region 4 with fail
    have hW2 := set_mid (w := w1) (v := .int .i64 (-1)) HH.out.1
    have hr2 := (set_other w1 w.heap.size 1 (.int .i64 (-1)) (w.heap.size + 1) (by omega)).trans HH.out.2.1
    have hq2 := (set_other w1 w.heap.size 1 (.int .i64 (-1)) (w.heap.size + 1 + 1) (by omega)).trans HH.out.2.2
    have hb2 : Below w.heap.size w (w1.setCell ⟨w.heap.size, 1, none⟩ (.int .i64 (-1))) := ((HB.out.1.trans (HB1.out.mono (by rw [HB.out.2]; omega))).setCell (p := ⟨w.heap.size, 1, none⟩) (Nat.le_refl _) _)
    clear c0 c1 c2 cz
    revert hW2 hr2 hq2 hb2
    generalize w1.setCell ⟨w.heap.size, 1, none⟩ (.int .i64 (-1)) = W2
    intro hW2 hr2 hq2 hb2
    obtain ⟨c0, c1, c2, cz⟩ := three_cells hW2
    obtain ⟨d0, d1, d2, d3, dz⟩ := four_cells hr2
    obtain ⟨f0, f1, f2, fz⟩ := three_cells hq2
    have HB2 := Lib.hid (And.intro hb2 (And.intro hr2 hq2))
    clear hW2 hr2 hq2 hb2
    go_region
    go_wp2_with fail
    rw [pair43]
    obtain ⟨k1, k2⟩ := pairW_cells (cs := #[.int .i64 0, .string ⟨#[]⟩, .int .i64 0, .int .i64 0]) (ys := #[.slice A nl c, .int .i64 (-1), .slice A2 n2 cN]) HB2.out.2.1 HB2.out.2.2 rfl rfl (by omega)
    refine bodyPost_ret (results_two Tryz.results74 rfl rfl k1 k2 row_tok row_at size_tok size_at) rfl ?_
    rw [← hS]
    exact ⟨0, rfl, (HB2.out.1).trans (pairW_below (by omega) (by omega))⟩
  | true =>
    rw [hi] at HIS
    obtain ⟨x, r, hr, hm⟩ := must_isT.2 hi
    obtain ⟨h0, h1, hx, -⟩ := Po.rest_cons hr
    obtain ⟨m, rfl, hmn⟩ := nat_of_pos h0 h1
    rw [Int.toNat_natCast] at hx
    obtain ⟨b, off, rfl, hbB, a, a0, a1, a2, a3⟩ := h.at hx
    have HM := Lib.hid (show rmust L (m : Int) kd t.data.toList = (x, (m : Int) + 1) by unfold rmust; rw [hm])
    rw [HM.out]
    obtain ⟨S, hS⟩ : ∃ S, MustSays x (.agg #[.slice (some ⟨b, off, none⟩) nl c, .int .i64 ((m : Int) + 1), .slice A2 n2 cN]) w = S := ⟨_, rfl⟩
    simp only
    rw [hS]
    have hm9 : L.length ≤ 100000 := hL
    rw [hnl] at hmn hm9
    obtain ⟨i1, i2, i3, i4⟩ := hits hmn
    have w1m : wrap64 ((m : Int) + 1) = (m : Int) + 1 := by unfold wrap64; omega
    have HC := Lib.hid (three_new W hW)
    have HB := Lib.hid (And.intro hbW hsW)
    have HT := Lib.hid (And.intro hbB (And.intro a0 (And.intro a1 (And.intro a2 a3))))
    clear hi h hbW hB hsW hnl hr hm h0 h1 hx hmn hm9 hL hbB a0 a1 a2 a3
    go_enter Tryz.func74, Tryz.ntmps74
    go_upto_region 1 with fail
    clear hW
    obtain ⟨c0, c1, c2, cz⟩ := three_cells HC.out.1
    go_upto_region 5 with (go_at_call 55; refine HIS.out.mono ?_; rintro e w1 ⟨rfl, hb1⟩; have HB1 := Lib.hid hb1; clear hb1)
    clear c0 c1 c2 cz
    have hc := (HB1.out.block w.heap.size (by rw [HB.out.2]; omega)).trans HC.out.1
    have hr := (HB1.out.block (w.heap.size + 1) (by rw [HB.out.2]; omega)).trans HC.out.2.1
    have hq := (HB1.out.block (w.heap.size + 1 + 1) (by rw [HB.out.2]; omega)).trans HC.out.2.2
    obtain ⟨c0, c1, c2, cz⟩ := three_cells hc
    have hbw : b < w.heap.size := Nat.lt_of_lt_of_le HT.out.1 (by have := HBW.out; omega)
    have ht : ∀ o, w1.cell? ⟨b, o, none⟩ = w.cell? ⟨b, o, none⟩ := fun o => (HB1.out.cell (p := ⟨b, o, none⟩) (Nat.lt_of_lt_of_le hbw HB.out.1.size)).trans (HB.out.1.cell (p := ⟨b, o, none⟩) hbw)
    have t0 := (ht _).trans HT.out.2.1
    have t1 := (ht _).trans HT.out.2.2.1
    have t2 := (ht _).trans HT.out.2.2.2.1
    have t3 := (ht _).trans HT.out.2.2.2.2
    have HH := Lib.hid (And.intro hc (And.intro hr hq))
    have hs1 : w.heap.size + 3 ≤ w1.heap.size := by have := HB1.out.size; have := HB.out.2; omega
    have HS1 := Lib.hid hs1
    clear hc hr hq ht hbw hs1
    go_upto_region 6 with fail
    have hb3 := Below.new (w := w1) (.cells #[.int .i64 x.k, .string ⟨x.t.toArray⟩, .int .i64 x.n, .int .i64 a] 62)
    have hn3 := heap_alloc_new w1 (.cells #[.int .i64 x.k, .string ⟨x.t.toArray⟩, .int .i64 x.n, .int .i64 a] 62)
    clear c0 c1 c2 cz t0 t1 t2 t3
    revert hb3 hn3
    generalize w1.alloc (.cells #[.int .i64 x.k, .string ⟨x.t.toArray⟩, .int .i64 x.n, .int .i64 a] 62) = W3
    intro hb3 hn3
    have hc := (hb3.block w.heap.size (by have := HS1.out; omega)).trans HH.out.1
    have hr := (hb3.block (w.heap.size + 1) (by have := HS1.out; omega)).trans HH.out.2.1
    have hq := (hb3.block (w.heap.size + 1 + 1) (by have := HS1.out; omega)).trans HH.out.2.2
    obtain ⟨c0, c1, c2, cz⟩ := three_cells hc
    have H3 := Lib.hid (And.intro hb3 (And.intro hn3 (And.intro hc (And.intro hr hq))))
    clear hb3 hn3 hc hr hq
    go_upto_region 7 with fail
    have hne : w1.heap.size ≠ w.heap.size := by have := HS1.out; omega
    have hW2 := set_mid (w := W3) (v := .int .i64 ((m : Int) + 1)) H3.out.2.2.1
    have hn2 := (set_other W3 w.heap.size 1 (.int .i64 ((m : Int) + 1)) w1.heap.size hne).trans H3.out.2.1
    have hr2 := (set_other W3 w.heap.size 1 (.int .i64 ((m : Int) + 1)) (w.heap.size + 1) (by omega)).trans H3.out.2.2.2.1
    have hq2 := (set_other W3 w.heap.size 1 (.int .i64 ((m : Int) + 1)) (w.heap.size + 1 + 1) (by omega)).trans H3.out.2.2.2.2
    have hb2 : Below w.heap.size w (W3.setCell ⟨w.heap.size, 1, none⟩ (.int .i64 ((m : Int) + 1))) := ((HB.out.1.trans ((HB1.out.mono (by rw [HB.out.2]; omega)).trans (H3.out.1.mono (by have := HS1.out; omega)))).setCell (p := ⟨w.heap.size, 1, none⟩) (Nat.le_refl _) _)
    clear c0 c1 c2 cz
    revert hW2 hn2 hr2 hq2 hb2
    generalize W3.setCell ⟨w.heap.size, 1, none⟩ (.int .i64 ((m : Int) + 1)) = W4
    intro hW2 hn2 hr2 hq2 hb2
    obtain ⟨c0, c1, c2, cz⟩ := three_cells hW2
    obtain ⟨e0, e1, e2, e3, ez⟩ := four_cells hn2
    obtain ⟨d0, d1, d2, d3, dz⟩ := four_cells hr2
    obtain ⟨f0, f1, f2, fz⟩ := three_cells hq2
    have HB2 := Lib.hid (And.intro hb2 (And.intro hr2 hq2))
    clear hW2 hr2 hq2 hb2 hn2
    go_region
    go_wp2_with fail
    rw [pair43]
    obtain ⟨k1, k2⟩ := pairW_cells (cs := #[.int .i64 x.k, .string ⟨x.t.toArray⟩, .int .i64 x.n, .int .i64 a]) (ys := #[.slice (some ⟨b, off, none⟩) nl c, .int .i64 ((m : Int) + 1), .slice A2 n2 cN]) HB2.out.2.1 HB2.out.2.2 rfl rfl (by omega)
    refine bodyPost_ret (results_two Tryz.results74 rfl rfl k1 k2 row_tok row_at size_tok size_at) rfl ?_
    rw [← hS]
    exact ⟨a, rfl, (HB2.out.1).trans (pairW_below (by omega) (by omega))⟩
end Go.Proofs.YtdolpmmnjndfkaaGreatDoor
