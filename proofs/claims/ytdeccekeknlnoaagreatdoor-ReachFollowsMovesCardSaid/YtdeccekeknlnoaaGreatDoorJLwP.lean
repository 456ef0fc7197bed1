/- Chapter 38, plain: the chain of moves; the holders of a route. No program in sight. | Chapter 38, the references: Digests, In, Same. | Chapter 38: what sanity and the law build: equations, one a form. | Chapter 38, plain: the digests of sanity, its holders, its worlds. -/
import Derived.Test.YtdeccekeknlnoaaGreatDoorJReD
import Derived.BigQuiet
namespace Go.Proofs.YtdeccekeknlnoaaGreatDoor
open Go.RowKit Go.Sort Go.Lib Go.Shelf
theorem devL_len (k : Nat) : (devL k).length = 16 := by simp [devL]
theorem devL_lt {k : Nat} (hk : k < 256) : ∀ x ∈ devL k, x < 256 := by
  intro x hx
  simp only [devL, List.mem_cons, List.mem_replicate] at hx
  omega
/-- the device of a number -/
def devG (k : Nat) : Dg := ⟨devL (k % 256), devL_len _, devL_lt (Nat.mod_lt _ (by decide))⟩
theorem devG_val {k : Nat} (hk : k < 256) : (devG k).val = devL k := by
  show devL (k % 256) = devL k
  rw [Nat.mod_eq_of_lt hk]
def mvs (s : Int) (r : List Nat) (k : Nat) : List (Int × Dg × Dg) := (List.range k).map fun i => (s, devG r[i]!, devG r[i + 1]!)
theorem mvs_succ (s : Int) (r : List Nat) (k : Nat) : mvs s r (k + 1) = mvs s r k ++ [(s, devG r[k]!, devG r[k + 1]!)] := by simp [mvs, List.range_succ]
theorem mvs_len (s : Int) (r : List Nat) (k : Nat) : (mvs s r k).length = k := by simp [mvs]
theorem mvs_sec {s : Int} {r : List Nat} {k : Nat} {m : Int × Dg × Dg} (h : m ∈ mvs s r k) : m.1 = s := by
  simp only [mvs, List.mem_map] at h
  obtain ⟨i, -, rfl⟩ := h
  rfl
def accAll (s : Int) (dev : Dg) (ms : List (Int × Dg × Dg)) : List Dg := ms.foldl (mvStep s) [dev]
theorem accTo_all (s : Int) (dev : Dg) (ms : List (Int × Dg × Dg)) : accTo s dev ms ms.length = accAll s dev ms := by simp [accTo, accAll]
theorem acc_route (s : Int) (r : List Nat) : ∀ k i, i ≤ k → devG r[i]! ∈ accAll s (devG r[0]!) (mvs s r k)
  | 0, i, h => by
    obtain rfl : i = 0 := by omega
    simp [accAll, mvs]
  | k + 1, i, h => by
    have I := acc_route s r k
    have e : accAll s (devG r[0]!) (mvs s r (k + 1)) = accAll s (devG r[0]!) (mvs s r k) ++ [devG r[k + 1]!] := by
      have I' := I k (Nat.le_refl _)
      unfold accAll at I' ⊢
      rw [mvs_succ, List.foldl_append]
      simp only [List.foldl_cons, List.foldl_nil, mvStep]
      rw [if_pos ⟨trivial, I'⟩]
    rw [e]
    by_cases hi : i = k + 1
    · subst hi; simp
    · exact List.mem_append_left _ (I i (by omega))
def erlL (e : Nat) : List Nat := 8 :: e :: List.replicate 14 0
def sevL : List Nat := 7 :: List.replicate 15 0
theorem erlL_len (k : Nat) : (erlL k).length = 16 := by simp [erlL]
theorem erlL_lt {k : Nat} (hk : k < 256) : ∀ x ∈ erlL k, x < 256 := by
  intro x hx
  simp only [erlL, List.mem_cons, List.mem_replicate] at hx
  omega
def erlG (k : Nat) : Dg := ⟨erlL (k % 256), erlL_len _, erlL_lt (Nat.mod_lt _ (by decide))⟩
theorem erlG_val {k : Nat} (hk : k < 256) : (erlG k).val = erlL k := by
  show erlL (k % 256) = erlL k
  rw [Nat.mod_eq_of_lt hk]
def sevG : Dg := ⟨sevL, by decide⟩
theorem erl_ne (a b : Nat) : erlG a ≠ devG b := by
  intro h
  have := congrArg Subtype.val h
  simp [erlG, devG, erlL, devL] at this
theorem acc_first (s : Int) (a e : Nat) (ms : List (Int × Dg × Dg)) : accAll s (devG a) ((s, erlG e, sevG) :: ms) = accAll s (devG a) ms := by
  unfold accAll
  rw [List.foldl_cons]
  congr 1
  unfold mvStep
  rw [if_neg]
  rintro ⟨-, h⟩
  simp only [List.mem_singleton] at h
  exact erl_ne e a h
/-- what the law asks of the holders -/
theorem norm_route {s : Int} {r : List Nat} {k : Nat} {l : List Dg} (h : Norm (accAll s (devG r[0]!) (mvs s r k)) l) {i : Nat} (hi : i ≤ k) : devG r[i]! ∈ l := (h.mem _).2 (acc_route s r k i hi)
theorem norm_lt {o l : List Dg} (h : Norm o l) {i : Nat} {x y : Dg} (hx : l[i]? = some x) (hy : l[i + 1]? = some y) : ltD x y := by
  have h1 := List.pairwise_iff_getElem.1 h.inc
  obtain ⟨a, rfl⟩ := List.getElem?_eq_some_iff.1 hx
  obtain ⟨b, rfl⟩ := List.getElem?_eq_some_iff.1 hy
  exact h1 i (i + 1) a b (by omega)
end Go.Proofs.YtdeccekeknlnoaaGreatDoor

namespace Go.Proofs.YtdeccekeknlnoaaGreatDoor
open Go.RowKit Go.Sort Go.Lib Go.Shelf
theorem RDigs.form {w : World} {B : Nat} {v : Value} {ds : List (List Nat)} (h : RDigs w B v ds) : ∃ A c, v = .slice A ds.length c ∧ ds.length ≤ c ∧ c ≤ maxLen := by
  obtain ⟨A, c, h1, h2, h3, _⟩ := h
  exact ⟨A, c, h1, h2, h3⟩
theorem list_ne {α : Type} [DecidableEq α] {l m : List α} {i : Nat} {x y : α} (hx : l[i]? = some x) (hy : m[i]? = some y) (h : x ≠ y) : decide (l = m) = false := by
  rw [decide_eq_false_iff_not]
  rintro rfl
  rw [hx] at hy
  simp only [Option.some.injEq] at hy
  exact h hy
set_option maxRecDepth 1000000 in
set_option maxHeartbeats 2000000 in
theorem ref_digs (v1 v2 : Value) (ps qs : List (List Nat)) (w : World) (h1 : RDigs w w.heap.size v1 ps) (h2 : RDigs w w.heap.size v2 qs) :
    Calls Tryz.prog 17 #[v1, v2] w fun e w' => e = .returned (.bool (decide (ps = qs))) ∧ ∃ n, w' = w.drewN n := by
  obtain ⟨T, N, R, K, LT⟩ := letters
  obtain ⟨A1, c1, rfl, hl1, hm1⟩ := h1.form
  obtain ⟨A2, c2, rfl, hl2, hm2⟩ := h2.form
  have H := Lib.hid (And.intro h1 h2)
  clear h1 h2
  obtain ⟨n, hn⟩ : ∃ n, ps.length = n := ⟨_, rfl⟩
  obtain ⟨m, hm⟩ : ∃ m, qs.length = m := ⟨_, rfl⟩
  have HN := Lib.hid (And.intro hn hm)
  rw [hn] at hl1 H ⊢
  rw [hm] at hl2 H ⊢
  unfold maxLen at hm1 hm2
  have hlim : n ≤ 9223372036854775807 := by omega
  have HLIM := Lib.hid hlim
  clear hn hm hm1 hm2 hl1 hl2 hlim
  by_cases hnm : (n : Int) = m
  · obtain rfl : n = m := by omega
    clear hnm
    go_enter Tryz.func17, Tryz.ntmps17
    have hop : ∀ a b, Op.binOp BinOp.neq 39 a b 39 = Op.binOp BinOp.neq R a b R := fun a b => by rw [LT.tyR]
    simp only [LT.loadR, hop]
    clear hop
    go_wp2_with fail
    go_loopg [5] n (fun g s5 wr => ∃ i q : Nat, i + g = n ∧ s5 = .int .i64 i ∧ wr = w.drewN q ∧ Aside (∀ j, j < i → ps[j]? = qs[j]?))
    case atStart => exact ⟨0, 0, by omega, rfl, rfl, fun j hj => by omega⟩
    case round =>
      obtain ⟨i, q, hig, rfl, rfl, hall⟩ := hrel
      cases gk with
      | zero =>
        obtain rfl : i = n := by omega
        have hX := Lib.hid (show decide (ps = qs) = true by
          rw [decide_eq_true_iff]
          apply List.ext_getElem?
          intro j
          by_cases hj : j < i
          · exact hall.out j hj
          · rw [List.getElem?_eq_none (by have := HN.out.1; omega), List.getElem?_eq_none (by have := HN.out.2; omega)])
        have hi : ¬ (i : Int) < i := by omega
        go_wp2_with fail
        go_ret
        exact ⟨ret_bool hX.out.symm, q, rfl⟩
      | succ g =>
        obtain ⟨p, hp⟩ : ∃ p, ps[i]? = some p := ⟨_, List.getElem?_eq_getElem (by have := HN.out.1; omega)⟩
        obtain ⟨r, hr⟩ : ∃ r, qs[i]? = some r := ⟨_, List.getElem?_eq_getElem (by have := HN.out.2; omega)⟩
        obtain ⟨b1, o1, rfl, -, -, hd1, hr1⟩ := H.out.1.at hp
        obtain ⟨b2, o2, rfl, -, -, hd2, hr2⟩ := H.out.2.at hr
        have hi : (i : Int) < n := by omega
        have hi2 : 0 ≤ (i : Int) ∧ (i : Int) < n := by omega
        have w3 : wrap64 ((i : Int) + 1) = (i : Int) + 1 := by have := HLIM.out; unfold wrap64; omega
        have HPR := Lib.hid (And.intro hp hr)
        have la := LT.aggR
        have lz := LT.sizeR
        have hl1 := fun k => LT.ldR (w := w.drewN k) hr1 hd1
        have hl2 := fun k => LT.ldR (w := w.drewN k) hr2 hd2
        have hE := fun w => run_dig hd1 hd2 w
        have hG : ∀ w, Sem.run Tryz.prog (eqGuard BinOp.neq 39 (.tmp 20) (.tmp 24) (.agg (dgVals p).toArray) (.agg (dgVals r).toArray)) w = .ok () w := fun w => by kernel_rfl
        rw [← LT.tyR] at hE hG
        clear hp hr hr1 hr2 hd1 hd2
        by_cases e : p = r
        · subst e
          rw [show (p == p) = true by simp] at hE
          go_upto_region 6 with fail
          go_region
          go_wp2_with fail
          go_roundg g
          case measure => omega
          case rel => exact ⟨i + 1, q + 1, by omega, by first | rfl | go_num, rfl, fun j hj => by
            by_cases e : j = i
            · subst e; rw [HPR.out.1, HPR.out.2]
            · exact hall.out j (by omega)⟩
        · rw [show (p == r) = false by simpa using e] at hE
          have HX := Lib.hid (list_ne HPR.out.1 HPR.out.2 e)
          go_upto_region 6 with fail
          go_region
          go_wp2_with fail
          go_ret
          exact ⟨ret_bool HX.out.symm, q + 1, rfl⟩
  · have HX := Lib.hid (show decide (ps = qs) = false by
      rw [decide_eq_false_iff_not]
      rintro rfl
      exact hnm (by have := HN.out; omega))
    go_enter Tryz.func17, Tryz.ntmps17
    go_wp2_with fail
    go_ret
    exact ⟨ret_bool HX.out.symm, 0, rfl⟩
theorem rdigs_drewN {w : World} {v : Value} {ds : List (List Nat)} (h : RDigs w w.heap.size v ds) (n : Nat) : RDigs (w.drewN n) (w.drewN n).heap.size v ds := h
set_option maxRecDepth 1000000 in
set_option maxHeartbeats 1000000 in
theorem ref_in (v : Value) (l : List Dg) (x : Dg) (w : World) (h : RDigs w w.heap.size v (l.map (·.val))) :
    Calls Tryz.prog 16 #[v, .agg (b8 x.val).toArray] w fun e w' => e = .returned (.bool (decide (x ∈ l))) ∧ Below w.heap.size w w' := by
  obtain ⟨T, N, R, K, LT⟩ := letters
  obtain ⟨A, c, rfl, hl1, hm1⟩ := h.form
  rw [List.length_map] at hl1 h ⊢
  obtain ⟨xv, hxv⟩ : ∃ xv, (b8 x.val).toArray = xv := ⟨_, rfl⟩
  rw [hxv]
  obtain ⟨W, hW⟩ : ∃ W, w.alloc (.cells xv 39) = W := ⟨_, rfl⟩
  have hbW : Below w.heap.size w W := by rw [← hW]; exact Below.new _
  have eW : W.heap[w.heap.size]? = some (.cells xv 39 (0, 0)) := by rw [← hW]; exact heap_alloc_new _ _
  have hxs : xv.size = 16 := by rw [← hxv]; simpa using b8_16 x
  have lx := fun k => LT.ldR (w := W.drewN k) (b := w.heap.size) (o := 0) (d := x.val) (fun j u hu => by
    have := range_block eW j u (by rw [← hxv]; exact hu)
    exact this) x.property.1
  rw [show (dgVals x.val).toArray = xv from hxv] at lx
  have H := Lib.hid (And.intro (h.below hbW) hbW)
  obtain ⟨n, hn⟩ : ∃ n, l.length = n := ⟨_, rfl⟩
  have HN := Lib.hid hn
  rw [hn] at hl1 H ⊢
  unfold maxLen at hm1
  have hlim : n ≤ 9223372036854775807 := by omega
  have HLIM := Lib.hid hlim
  have HX := Lib.hid hxv
  clear hn hm1 hl1 hlim hbW eW hxs hxv h
  have hop : ∀ a b, Op.binOp BinOp.eql 39 a b 39 = Op.binOp BinOp.eql R a b R := fun a b => by rw [LT.tyR]
  have HW := Lib.hid hW
  clear hW
  go_enter Tryz.func16, Tryz.ntmps16
  simp only [LT.loadR, hop]
  clear hop
  go_upto_region 1 with fail
  rw [HW.out]
  go_wp2_with fail
  go_loopg [5] n (fun g s5 wr => ∃ i q : Nat, i + g = n ∧ s5 = .int .i64 i ∧ wr = W.drewN q ∧ Aside (∀ j, j < i → l[j]? ≠ some x))
  case atStart => exact ⟨0, 0, by omega, rfl, rfl, fun j hj => by omega⟩
  case round =>
    obtain ⟨i, q, hig, rfl, rfl, hall⟩ := hrel
    cases gk with
    | zero =>
      obtain rfl : i = n := by omega
      have hX := Lib.hid (show decide (x ∈ l) = false by
        rw [decide_eq_false_iff_not]
        intro hm
        obtain ⟨j, hj, e⟩ := List.getElem_of_mem hm
        exact hall.out j (by have := HN.out; omega) (by rw [List.getElem?_eq_getElem hj, e]))
      have hi : ¬ (i : Int) < i := by omega
      go_wp2_with fail
      go_ret
      exact ⟨ret_bool hX.out.symm, below_drewN H.out.2 _⟩
    | succ g =>
      obtain ⟨p, hp⟩ : ∃ p, l[i]? = some p := ⟨_, List.getElem?_eq_getElem (by have := HN.out; omega)⟩
      obtain ⟨b1, o1, rfl, -, -, hd1, hr1⟩ := H.out.1.at (show (l.map (·.val))[i]? = some p.val by rw [List.getElem?_map, hp]; rfl)
      have hi : (i : Int) < n := by omega
      have hi2 : 0 ≤ (i : Int) ∧ (i : Int) < n := by omega
      have w3 : wrap64 ((i : Int) + 1) = (i : Int) + 1 := by have := HLIM.out; unfold wrap64; omega
      have HP := Lib.hid hp
      have la := LT.aggR
      have lz := LT.sizeR
      have lp := fun k => LT.ldR (w := W.drewN k) hr1 hd1
      have hE : ∀ w, Sem.run Tryz.prog (Op.equalIn 10000 R (.agg (dgVals p.val).toArray) (.agg xv)) w = .ok (decide (p = x)) w := fun w => by rw [LT.tyR, ← HX.out]; exact eq_dg p x w
      have hG : ∀ w, Sem.run Tryz.prog (eqGuard BinOp.eql R (.tmp 15) (.tmp 16) (.agg (dgVals p.val).toArray) (.agg xv)) w = .ok () w := fun w => by rw [LT.tyR, ← HX.out]; kernel_rfl
      obtain ⟨pv, hpv⟩ : ∃ pv, (dgVals p.val).toArray = pv := ⟨_, rfl⟩
      rw [hpv] at lp hE hG
      clear hp hr1 hd1 hpv
      by_cases e : p = x
      · rw [show decide (p = x) = true by simpa using e] at hE
        have hX := Lib.hid (show decide (x ∈ l) = true by
          rw [decide_eq_true_iff, ← e]; exact List.mem_of_getElem? HP.out)
        clear e
        go_upto_region 4 with fail
        go_region
        go_wp2_with fail
        go_ret
        exact ⟨ret_bool hX.out.symm, below_drewN H.out.2 _⟩
      · rw [show decide (p = x) = false by simpa using e] at hE
        have HE := Lib.hid e
        clear e
        go_upto_region 4 with fail
        go_region
        go_wp2_with fail
        go_roundg g
        case measure => omega
        case rel => exact ⟨i + 1, q + 1, by omega, by first | rfl | go_num, rfl, fun j hj => by
          by_cases e : j = i
          · subst e; rw [HP.out]; simpa using HE.out
          · exact hall.out j (by omega)⟩
set_option maxRecDepth 1000000 in
set_option maxHeartbeats 1000000 in
theorem ref_same (x y : Value) (s st : Int) (l : List Dg) (w : World) (h1 : ExpAt w x s st l) (h2 : ExpAt w y s st l) :
    Calls Tryz.prog 23 #[x, y] w fun e w' => e = .returned (.bool true) ∧ ∃ n, w' = w.drewN n := by
  obtain ⟨g1, c1, v1, rfl, -, -, -, hr1, hd1⟩ := h1
  obtain ⟨g2, c2, v2, rfl, -, -, -, hr2, hd2⟩ := h2
  have HD := Lib.hid (fun n => ref_digs v1 v2 _ _ (w.drewN n) (rdigs_drewN hd1 n) (rdigs_drewN hd2 n))
  rw [show decide (l.map (·.val) = l.map (·.val)) = true by simp] at HD
  obtain ⟨A1, k1, rfl, -, -⟩ := hd1.form
  obtain ⟨A2, k2, rfl, -, -⟩ := hd2.form
  rw [List.length_map] at hr1 hr2 HD
  have a0 : ∀ n, (w.drewN n).cell? ⟨g1, 0, none⟩ = some (.int .i64 s) := fun n => hr1 0 _ rfl
  have a1 : ∀ n, (w.drewN n).cell? ⟨g1, 1, none⟩ = some (.int .i64 st) := fun n => hr1 1 _ rfl
  have a2 : ∀ n, (w.drewN n).cell? ⟨g1, 2, none⟩ = some (.slice A1 l.length k1) := fun n => hr1 2 _ rfl
  have b0 : ∀ n, (w.drewN n).cell? ⟨g2, 0, none⟩ = some (.int .i64 s) := fun n => hr2 0 _ rfl
  have b1 : ∀ n, (w.drewN n).cell? ⟨g2, 1, none⟩ = some (.int .i64 st) := fun n => hr2 1 _ rfl
  have b2 : ∀ n, (w.drewN n).cell? ⟨g2, 2, none⟩ = some (.slice A2 l.length k2) := fun n => hr2 2 _ rfl
  clear hr1 hr2 hd1 hd2
  go_enter Tryz.func23, Tryz.ntmps23
  go_wp2_with fail
  refine wp_loop_rounds 2 ?_
  rw [rounds_succ]
  go_upto_region 6 with fail
  go_quiet ((go_at_call 17; refine Calls.quiet_of (HD.out _)))
  go_upto_region 7 with fail
  go_quiet (fail)
  go_wp2_with fail
  rw [rounds_succ]
  go_wp2_with fail
  go_ret
  exact ⟨rfl, _, rfl⟩
end Go.Proofs.YtdeccekeknlnoaaGreatDoor

namespace Go.Proofs.YtdeccekeknlnoaaGreatDoor
open Go.RowKit Go.Sort Go.Lib Go.Shelf
def dgk (k : Nat) : Dg := ⟨k % 256 :: List.replicate 15 0, by simp, by
  intro x hx
  simp only [List.mem_cons, List.mem_replicate] at hx
  omega⟩
theorem exec_build5 {P : Program} {o : Oper} {ρ : Operand → Value} {t : TypeId} {i0 i1 i2 i3 i4 : Nat} {x0 x1 x2 x3 x4 : Operand} {v0 v1 v2 v3 v4 v : Value} {w w' : World} (ho : o.op = .build t #[(i0, x0), (i1, x1), (i2, x2), (i3, x3), (i4, x4)]) (hx0 : ρ x0 = v0) (hx1 : ρ x1 = v1) (hx2 : ρ x2 = v2) (hx3 : ρ x3 = v3) (hx4 : ρ x4 = v4) (hr : (Instr.build t #[(i0, v0), (i1, v1), (i2, v2), (i3, v3), (i4, v4)]).run P w = .ok v w') : (execOp ρ o).run P w = .ok (.value v) w' := by
  simp only [execOp, ho, List.map_toArray, List.map_cons, List.map_nil, hx0, hx1, hx2, hx3, hx4]
  simp [hr]
theorem exec_slice2 {P : Program} {o : Oper} {ρ : Operand → Value} {t : TypeId} {n : Nat} {i0 i1 : Nat} {x0 x1 : Operand} {v0 v1 v : Value} {w w' : World} (ho : o.op = .buildSlice t n #[(i0, x0), (i1, x1)]) (hx0 : ρ x0 = v0) (hx1 : ρ x1 = v1) (hr : (Instr.buildSlice t n #[(i0, v0), (i1, v1)]).run P w = .ok v w') : (execOp ρ o).run P w = .ok (.value v) w' := by
  simp only [execOp, ho, List.map_toArray, List.map_cons, List.map_nil, hx0, hx1]
  simp [hr]
theorem exec_slice3 {P : Program} {o : Oper} {ρ : Operand → Value} {t : TypeId} {n : Nat} {i0 i1 i2 : Nat} {x0 x1 x2 : Operand} {v0 v1 v2 v : Value} {w w' : World} (ho : o.op = .buildSlice t n #[(i0, x0), (i1, x1), (i2, x2)]) (hx0 : ρ x0 = v0) (hx1 : ρ x1 = v1) (hx2 : ρ x2 = v2) (hr : (Instr.buildSlice t n #[(i0, v0), (i1, v1), (i2, v2)]).run P w = .ok v w') : (execOp ρ o).run P w = .ok (.value v) w' := by
  simp only [execOp, ho, List.map_toArray, List.map_cons, List.map_nil, hx0, hx1, hx2]
  simp [hr]
theorem step_valG {P : Program} {ops : Array Oper} {o : Oper} {a : Act} {w w' : World} {v : Value} {K : Act → World → Prop} {Q : Exit → Act → World → Prop} {E : Prop} (hw : Region.wanted o (yielded ops a.tmps) = true) (hx : (execOp a.eval o).run P w = .ok (.value v) w') (hK : K (a.put o.dst v) w') : if Region.wanted o (yielded ops a.tmps) = true then Oper.wp P o a w K Q else E := by
  rw [if_pos hw]
  unfold Oper.wp
  rw [hx]
  exact hK
theorem build_d1 (k : Nat) (w : World) : Sem.run Tryz.prog (Instr.build 39 #[(0, .int .u8 k)]) w = .ok (.agg (b8 (k :: List.replicate 15 0)).toArray) w := by kernel_rfl
theorem build_d2 (j k : Nat) (w : World) : Sem.run Tryz.prog (Instr.build 39 #[(0, .int .u8 j), (1, .int .u8 k)]) w = .ok (.agg (b8 (j :: k :: List.replicate 14 0)).toArray) w := by kernel_rfl
theorem build_manif (A : Option Addr) (n c : Nat) (w : World) : Sem.run Tryz.prog (Instr.build 45 #[(0, .int .i64 1), (1, .int .i64 1), (3, .slice A n c)]) w = .ok (.agg #[.int .i64 1, .int .i64 1, .int .i64 0, .slice A n c]) w := by kernel_rfl
theorem build_texts (s : ByteArray) (w : World) : Sem.run Tryz.prog (Instr.buildSlice 47 1 #[(0, .string s)]) w = .ok (.slice (some ⟨w.heap.size, 0, none⟩) 1 1) (w.alloc (.cells #[.string s] 9)) := by kernel_rfl
theorem build_bundle (A : Option Addr) (n c : Nat) (B : Option Addr) (m e : Nat) (w : World) : Sem.run Tryz.prog (Instr.build 49 #[(0, .agg #[.int .i64 1, .int .i64 1, .int .i64 0, .slice A n c]), (2, .slice B m e)]) w = .ok (.agg #[.int .i64 1, .int .i64 1, .int .i64 0, .slice A n c, .slice none 0 0, .slice B m e]) w := by kernel_rfl
theorem build_bundles (A : Option Addr) (n c : Nat) (B : Option Addr) (m e : Nat) (w : World) : Sem.run Tryz.prog (Instr.buildSlice 40 1 #[(0, .agg #[.int .i64 1, .int .i64 1, .int .i64 0, .slice A n c, .slice none 0 0, .slice B m e])]) w = .ok (.slice (some ⟨w.heap.size, 0, none⟩) 1 1) (w.alloc (.cells #[.int .i64 1, .int .i64 1, .int .i64 0, .slice A n c, .slice none 0 0, .slice B m e] 49)) := by kernel_rfl
theorem build_eps (w : World) : Sem.run Tryz.prog (Instr.buildSlice 41 1 #[(0, .int .i64 0)]) w = .ok (.slice (some ⟨w.heap.size, 0, none⟩) 1 1) (w.alloc (.cells #[.int .i64 0] 3)) := by kernel_rfl
theorem build_grant (s : Int) {d : List Nat} (h : d.length = 16) (t : ByteArray) (A : Option Addr) (n c : Nat) (B : Option Addr) (m e : Nat) (w : World) : Sem.run Tryz.prog (Instr.build 43 #[(0, .int .i64 s), (1, .agg (b8 d).toArray), (2, .string t), (3, .slice A n c), (4, .slice B m e)]) w = .ok (.agg (.int .i64 s :: (b8 d ++ [.string t, .slice A n c, .slice B m e])).toArray) w := by
  obtain ⟨a0, a1, a2, a3, a4, a5, a6, a7, a8, a9, aa, ab, ac, ad, ae, af, rfl⟩ := list16 h
  kernel_rfl
theorem build_grant3 (s : Int) {d : List Nat} (h : d.length = 16) (t : ByteArray) (w : World) : Sem.run Tryz.prog (Instr.build 43 #[(0, .int .i64 s), (1, .agg (b8 d).toArray), (2, .string t)]) w = .ok (.agg (.int .i64 s :: (b8 d ++ [.string t, .slice none 0 0, .slice none 0 0])).toArray) w := by
  obtain ⟨a0, a1, a2, a3, a4, a5, a6, a7, a8, a9, aa, ab, ac, ad, ae, af, rfl⟩ := list16 h
  kernel_rfl
theorem build_grants (s : Int) {d : List Nat} (h : d.length = 16) (t : ByteArray) (A : Option Addr) (n c : Nat) (B : Option Addr) (m e : Nat) (w : World) : Sem.run Tryz.prog (Instr.buildSlice 25 1 #[(0, .agg (.int .i64 s :: (b8 d ++ [.string t, .slice A n c, .slice B m e])).toArray)]) w = .ok (.slice (some ⟨w.heap.size, 0, none⟩) 1 1) (w.alloc (.cells (.int .i64 s :: (b8 d ++ [.string t, .slice A n c, .slice B m e])).toArray 43)) := by
  obtain ⟨a0, a1, a2, a3, a4, a5, a6, a7, a8, a9, aa, ab, ac, ad, ae, af, rfl⟩ := list16 h
  kernel_rfl
theorem build_move (s : Int) {d e : List Nat} (h : d.length = 16) (h' : e.length = 16) (w : World) : Sem.run Tryz.prog (Instr.build 55 #[(0, .int .i64 s), (1, .agg (b8 d).toArray), (2, .agg (b8 e).toArray)]) w = .ok (.agg (.int .i64 s :: (b8 d ++ b8 e)).toArray) w := by
  obtain ⟨a0, a1, a2, a3, a4, a5, a6, a7, a8, a9, aa, ab, ac, ad, ae, af, rfl⟩ := list16 h
  obtain ⟨z0, z1, z2, z3, z4, z5, z6, z7, z8, z9, za, zb, zc, zd, ze, zf, rfl⟩ := list16 h'
  kernel_rfl
theorem build_moves1 (s : Int) {d e : List Nat} (h : d.length = 16) (h' : e.length = 16) (w : World) : Sem.run Tryz.prog (Instr.buildSlice 26 1 #[(0, .agg (.int .i64 s :: (b8 d ++ b8 e)).toArray)]) w = .ok (.slice (some ⟨w.heap.size, 0, none⟩) 1 1) (w.alloc (.cells (.int .i64 s :: (b8 d ++ b8 e)).toArray 55)) := by
  obtain ⟨a0, a1, a2, a3, a4, a5, a6, a7, a8, a9, aa, ab, ac, ad, ae, af, rfl⟩ := list16 h
  obtain ⟨z0, z1, z2, z3, z4, z5, z6, z7, z8, z9, za, zb, zc, zd, ze, zf, rfl⟩ := list16 h'
  kernel_rfl
theorem build_moves2 (s : Int) {d e f : List Nat} (h : d.length = 16) (h' : e.length = 16) (h2 : f.length = 16) (w : World) : Sem.run Tryz.prog (Instr.buildSlice 26 2 #[(0, .agg (.int .i64 s :: (b8 d ++ b8 e)).toArray), (1, .agg (.int .i64 s :: (b8 e ++ b8 f)).toArray)]) w = .ok (.slice (some ⟨w.heap.size, 0, none⟩) 2 2) (w.alloc (.cells ((.int .i64 s :: (b8 d ++ b8 e)) ++ (.int .i64 s :: (b8 e ++ b8 f))).toArray 55)) := by
  obtain ⟨a0, a1, a2, a3, a4, a5, a6, a7, a8, a9, aa, ab, ac, ad, ae, af, rfl⟩ := list16 h
  obtain ⟨z0, z1, z2, z3, z4, z5, z6, z7, z8, z9, za, zb, zc, zd, ze, zf, rfl⟩ := list16 h'
  obtain ⟨y0, y1, y2, y3, y4, y5, y6, y7, y8, y9, ya, yb, yc, yd, ye, yf, rfl⟩ := list16 h2
  kernel_rfl
theorem build_fact (k : Int) {d : List Nat} (h : d.length = 16) (w : World) : Sem.run Tryz.prog (Instr.build 68 #[(0, .int .i64 k), (3, .agg (b8 d).toArray)]) w = .ok (.agg (([.int .i64 k, .string ⟨#[]⟩, .int .i64 0, .int .i64 0, .int .i64 0, .slice none 0 0] : List Value) ++ b8 d).toArray) w := by
  obtain ⟨a0, a1, a2, a3, a4, a5, a6, a7, a8, a9, aa, ab, ac, ad, ae, af, rfl⟩ := list16 h
  kernel_rfl
theorem build_dir (w : World) : Sem.run Tryz.prog (Instr.build 24 #[]) w = .ok (.agg #[.slice none 0 0]) w := by kernel_rfl
theorem build_digs3 {d e f : List Nat} (h : d.length = 16) (h' : e.length = 16) (h2 : f.length = 16) (w : World) : Sem.run Tryz.prog (Instr.buildSlice 34 3 #[(0, .agg (b8 d).toArray), (1, .agg (b8 e).toArray), (2, .agg (b8 f).toArray)]) w = .ok (.slice (some ⟨w.heap.size, 0, none⟩) 3 3) (w.alloc (.cells (b8 d ++ b8 e ++ b8 f).toArray 39)) := by
  obtain ⟨a0, a1, a2, a3, a4, a5, a6, a7, a8, a9, aa, ab, ac, ad, ae, af, rfl⟩ := list16 h
  obtain ⟨z0, z1, z2, z3, z4, z5, z6, z7, z8, z9, za, zb, zc, zd, ze, zf, rfl⟩ := list16 h'
  obtain ⟨y0, y1, y2, y3, y4, y5, y6, y7, y8, y9, ya, yb, yc, yd, ye, yf, rfl⟩ := list16 h2
  kernel_rfl
end Go.Proofs.YtdeccekeknlnoaaGreatDoor

namespace Go.Proofs.YtdeccekeknlnoaaGreatDoor
open Go.RowKit Go.Sort Go.Lib Go.Shelf
theorem stageD_lt (Ks : List Int) (st : V8) (s : ByteArray) : ∀ x ∈ stageD Ks st s, x < 256 := by
  intro x hx
  have hx := List.mem_of_mem_take hx
  simp only [words8, List.mem_flatMap] at hx
  obtain ⟨y, -, hy⟩ := hx
  exact beB_lt _ _ x hy
def dA : Dg := dgk 1
def dB : Dg := dgk 2
def dC : Dg := dgk 3
def mvABC : List (Int × Dg × Dg) := [(7, dA, dB), (7, dB, dC)]
theorem acc_abc : accTo 7 dA mvABC mvABC.length = [dA, dB, dC] := by decide
theorem acc_a : accTo 7 dA [] ([] : List (Int × Dg × Dg)).length = [dA] := by decide
theorem norm_abc : Norm [dA, dB, dC] [dA, dB, dC] := by
  refine ⟨?_, fun _ => Iff.rfl⟩
  have h1 : ltD dA dB := by unfold ltD; decide
  have h2 : ltD dB dC := by unfold ltD; decide
  have h3 : ltD dA dC := by unfold ltD; decide
  simp [h1, h2, h3]
theorem norm_a : Norm [dA] [dA] := ⟨by simp, fun _ => Iff.rfl⟩
theorem is_abc {l : List Dg} (h : Norm (accTo 7 dA mvABC mvABC.length) l) : l = [dA, dB, dC] := by
  rw [acc_abc] at h
  exact h.uniq norm_abc
theorem is_a {l : List Dg} (h : Norm (accTo 7 dA [] ([] : List (Int × Dg × Dg)).length) l) : l = [dA] := by
  rw [acc_a] at h
  exact h.uniq norm_a
def kindOf (o : Option (Nat × List Nat)) (q : List Nat) (l : List Dg) : Int := if l.any (fun x => lists o 4 x.val) then 2 else if lists o 3 q then 1 else 0
theorem kind_none (q : List Nat) : kindOf none q [dA, dB, dC] = 0 := by rfl
theorem kind_bad (q : List Nat) : kindOf (some (4, dC.val)) q [dA, dB, dC] = 2 := by
  unfold kindOf
  rw [if_pos]
  simp [lists]
theorem kind_rev (q : List Nat) : kindOf (some (3, q)) q [dA] = 1 := by
  unfold kindOf
  simp [lists]
/-- what Of hands back, once the holders are known -/
def OfKn (w : World) (k : Int) (l : List Dg) (e : Ending) (w' : World) : Prop := ∃ A n c, e = .returned (.tuple #[.slice A n c, .int .i64 0]) ∧ ExpAt w' (.slice A n c) 7 k l ∧ Below w.heap.size w w'
theorem of_is {w w' : World} {o : Option (Nat × List Nat)} {q : List Nat} {hs l : List Dg} {k : Int} {e : Ending} (h : OfSay w o q 7 hs e w') (hl : ∀ m, Norm hs m → m = l) (hk : kindOf o q l = k) : OfKn w k l e w' := by
  obtain ⟨x, m, rfl, hn, hx, hb⟩ := h
  obtain rfl := hl m hn
  obtain ⟨g, c, hv, rfl, h2⟩ := id hx
  refine ⟨_, _, _, rfl, ?_, hb⟩
  unfold kindOf at hk
  rw [hk] at hx
  exact hx
theorem exp_below {w w' : World} {x : Value} {s k : Int} {l : List Dg} (h : ExpAt w x s k l) (hb : Below w.heap.size w w') : ExpAt w' x s k l := by
  obtain ⟨g, c, hv, rfl, h1, h2, h3, h4, h5⟩ := h
  exact ⟨g, c, hv, rfl, Nat.lt_of_lt_of_le h1 hb.size, h2, h3, fun j u hu => (hb.cell (p := ⟨g, 0 + j, none⟩) h1).trans (h4 j u hu), RDigs.mono (RDigs.below h5 hb) hb.size⟩
/-- a row of digests laid as one block -/
theorem rdigs_block {w : World} {g : Nat} {l : List Dg} {t : TypeId} (h : w.heap[g]? = some (.cells (dgFlat l).toArray t (0, 0))) (c : Nat) (h1 : l.length ≤ c) (h2 : c ≤ maxLen) : RDigs w w.heap.size (.slice (some ⟨g, 0, none⟩) l.length c) (l.map (·.val)) := by
  refine ⟨some ⟨g, 0, none⟩, c, by rw [List.length_map], by rw [List.length_map]; exact h1, h2, fun _ => ⟨g, 0, rfl, lt_of_block h, fun i d hi => ?_⟩⟩
  rw [List.getElem?_map] at hi
  obtain ⟨x, hx, rfl⟩ := Option.map_eq_some_iff.1 hi
  refine ⟨x.property.1, fun j y hy => ?_⟩
  have := range_block h (i * 16 + j) (.int .u8 y) (by
    have := dgFlat_at l i x j (.int .u8 y) hx (by simp [b8, hy])
    simpa using this)
  rw [← this]
  congr 2
  omega
theorem exp_new {W : World} {g : Nat} {l : List Dg} {t t2 : TypeId} (k : Int) (h : W.heap[g]? = some (.cells (dgFlat l).toArray t (0, 0))) (c : Nat) (h1 : l.length ≤ c) (h2 : c ≤ maxLen) :
    ExpAt (W.alloc (.cells #[.int .i64 7, .int .i64 k, .slice (some ⟨g, 0, none⟩) l.length c] t2)) (.slice (some ⟨W.heap.size, 0, none⟩) 1 1) 7 k l := by
  have e := heap_alloc_new W (.cells #[.int .i64 7, .int .i64 k, .slice (some ⟨g, 0, none⟩) l.length c] t2)
  refine ⟨_, _, _, rfl, lt_of_block e, by unfold maxLen; omega, Nat.le_refl _, range_block e, ?_⟩
  exact rdigs_block ((Below.heap_alloc _ _ _ (lt_of_block h)).trans h) c h1 h2
theorem kd_no {K : Nat} (h1 : K = 16) (h : ¬K = 16 ∨ 16 < K) : False := by omega
def mvFlat (l : List (Int × Dg × Dg)) : List Value := l.flatMap mvl
theorem mvFlat_snoc (l : List (Int × Dg × Dg)) (m : Int × Dg × Dg) : mvFlat (l ++ [m]) = mvFlat l ++ mvl m := by simp [mvFlat]
theorem mvFlat_at : ∀ (l : List (Int × Dg × Dg)) (i : Nat) (m : Int × Dg × Dg) (j : Nat) (u : Value), l[i]? = some m → (mvl m)[j]? = some u → (mvFlat l)[i * 33 + j]? = some u
  | [], _, _, _, _, h, _ => by simp at h
  | q :: l, 0, p, j, u, h, hu => by
    simp only [List.getElem?_cons_zero, Option.some.injEq] at h
    subst h
    have hj := (List.getElem?_eq_some_iff.1 hu).1
    rw [show mvFlat (q :: l) = mvl q ++ mvFlat l by simp [mvFlat], Nat.zero_mul, Nat.zero_add, List.getElem?_append_left hj]
    exact hu
  | q :: l, i + 1, p, j, u, h, hu => by
    have I := mvFlat_at l i p j u (by simpa using h) hu
    rw [show mvFlat (q :: l) = mvl q ++ mvFlat l by simp [mvFlat], List.getElem?_append_right (by rw [mvl_len]; omega), mvl_len, show (i + 1) * 33 + j - 33 = i * 33 + j by omega]
    exact I
theorem mvFlat_len (l : List (Int × Dg × Dg)) : (mvFlat l).length = l.length * 33 := by
  induction l with
  | nil => rfl
  | cons a l ih => rw [show mvFlat (a :: l) = mvl a ++ mvFlat l by simp [mvFlat], List.length_append, mvl_len, ih, List.length_cons]; omega
theorem mvFlat_one (l : List (Int × Dg × Dg)) : ∀ u ∈ mvFlat l, u.oneCell' = true := fun u hu => by
  simp only [mvFlat, List.mem_flatMap] at hu
  obtain ⟨m, -, hm⟩ := hu
  exact mvl_one m u hm
theorem mv_cells {V : World} {b : Nat} {ms : List (Int × Dg × Dg)} (hb : b < V.heap.size) (h : ∀ j u, (mvFlat ms)[j]? = some u → V.cell? ⟨b, j, none⟩ = some u) : MvAt V (some ⟨b, 0, none⟩) ms := fun i m hi =>
  ⟨b, 0, rfl, hb, fun j u hu => by
    have := h (i * 33 + j) u (mvFlat_at ms i m j u hi hu)
    rw [← this]
    congr 2
    omega⟩
theorem mv_abc {V : World} {b : Nat} {t : TypeId} (h : V.heap[b]? = some (.cells ((Value.int .i64 7 :: (b8 dA.val ++ b8 dB.val)) ++ (Value.int .i64 7 :: (b8 dB.val ++ b8 dC.val))).toArray t (0, 0))) : MvAt V (some ⟨b, 0, none⟩) mvABC := by
  refine mv_cells (lt_of_block h) fun j u hu => ?_
  have := range_block h j u (by
    have e : mvFlat mvABC = (Value.int .i64 7 :: (b8 dA.val ++ b8 dB.val)) ++ (Value.int .i64 7 :: (b8 dB.val ++ b8 dC.val)) := by simp [mvFlat, mvABC, mvl]
    rw [← e]
    exact hu)
  rwa [Nat.zero_add] at this
end Go.Proofs.YtdeccekeknlnoaaGreatDoor
