/- Chapter 38: slices.Compact at digests. | Chapter 38: rows of digests: owned, sorted, asked. | Chapter 38: reach.Holders, one grant. | Chapter 38: reach.Holders, one grant, somebody. -/
import Derived.Test.YtdeccekeknlnoaaGreatDoorJHoP
import Derived.Test.YtdeccekeknlnoaaGreatDoorJHoL
import Derived.Test.YtdeccekeknlnoaaGreatDoorJPdE
import Derived.Lib.SlicesCompact
import Derived.BigQuiet
import Derived.Deep.LoopGhost
import Derived.Shelf.SlSortCmp.NoneTotal
namespace Go.Proofs.YtdeccekeknlnoaaGreatDoor
open Go.RowKit Go.Sort Go.Lib
/-- a row of digests from the start of block b on -/
structure DgsAt (w : World) (b : Nat) (d : Array Dg) : Prop where
  c : ∀ j, j < d.size → w.rangeAt b (j * 16) (b8 d[j]!.val)
  fr : ∀ o, w.frozen? ⟨b, o, none⟩ = false
  lt : b < w.heap.size
theorem DgsAt.drewN {w : World} {b : Nat} {d : Array Dg} (h : DgsAt w b d) (n : Nat) : DgsAt (w.drewN n) b d := ⟨h.c, h.fr, h.lt⟩
theorem b8_16 (x : Dg) : (b8 x.val).length = 16 := by rw [b8_len, x.property.1]
theorem frozen_setCells (b : Nat) : ∀ (vs : List Value) (w : World) (o : Nat) (a : Addr), (w.setCells b o vs).frozen? a = w.frozen? a
  | [], _, _, _ => rfl
  | v :: vs, w, o, a => by
    show ((w.setCell ⟨b, o, none⟩ v).setCells b (o + 1) vs).frozen? a = _
    rw [frozen_setCells b vs, World.frozen?_setCell]
theorem size_setCells' (b : Nat) : ∀ (vs : List Value) (w : World) (o : Nat), (w.setCells b o vs).heap.size = w.heap.size
  | [], _, _ => rfl
  | v :: vs, w, o => by
    show ((w.setCell ⟨b, o, none⟩ v).setCells b (o + 1) vs).heap.size = _
    rw [size_setCells' b vs]; simp [World.setCell]
theorem setCells_in {b : Nat} : ∀ (vs : List Value) (w : World) (o : Nat), (∀ j, j < vs.length → (w.cell? ⟨b, o + j, none⟩).isSome = true) → (w.setCells b o vs).rangeAt b o vs
  | [], _, _, _ => fun j u hu => by simp at hu
  | v :: vs, w, o, h => by
    have I := setCells_in vs (w.setCell ⟨b, o, none⟩ v) (o + 1) (fun j hj => by
      rw [World.cell?_setCell_other _ _ _ _ (fun e => by have := (Addr.mk.inj e).2.1; omega)]
      have := h (j + 1) (by simp only [List.length_cons]; omega)
      rwa [show o + (j + 1) = o + 1 + j by omega] at this)
    intro j u hu
    cases j with
    | zero =>
      simp only [List.getElem?_cons_zero, Option.some.injEq] at hu
      subst hu
      show ((w.setCell ⟨b, o, none⟩ v).setCells b (o + 1) vs).cell? ⟨b, o + 0, none⟩ = _
      rw [Nat.add_zero, World.cell?_setCells_out b _ _ _ _ (fun _ _ => .inl (by simp only; omega))]
      obtain ⟨x, hx⟩ := Option.isSome_iff_exists.1 (h 0 (by simp))
      exact World.cell?_setCell_same _ _ _ (by rw [Nat.add_zero] at hx; exact hx)
    | succ j =>
      have := I j u (by simpa using hu)
      rwa [show o + 1 + j = o + (j + 1) by omega] at this
theorem range_some {w : World} {b o : Nat} {vs : List Value} (h : w.rangeAt b o vs) (j : Nat) (hj : j < vs.length) : (w.cell? ⟨b, o + j, none⟩).isSome = true := by
  rw [h j vs[j] (List.getElem?_eq_getElem hj)]; rfl
theorem DgsAt.set {w : World} {b k : Nat} {d : Array Dg} (h : DgsAt w b d) (hk : k < d.size) (x : Dg) :
    DgsAt (w.setCells b (k * 16) (b8 x.val)) b (d.setIfInBounds k x) := by
  have hs : (d.setIfInBounds k x).size = d.size := by simp
  refine ⟨fun j hj => ?_, fun o => ?_, ?_⟩
  · rw [hs] at hj
    by_cases e : j = k
    · subst e
      rw [show (d.setIfInBounds j x)[j]! = x by simp [hj]]
      exact setCells_in _ _ _ fun i hi => range_some (h.c j hj) i (by rw [b8_16] at hi ⊢; exact hi)
    · rw [show (d.setIfInBounds k x)[j]! = d[j]! by simp [hj, Ne.symm e]]
      intro i u hu
      have hi := (List.getElem?_eq_some_iff.1 hu).1
      rw [b8_16] at hi
      rw [World.cell?_setCells_out b _ _ _ _ (fun _ _ => by
        rw [b8_16]
        simp only
        omega)]
      exact h.c j hj i u hu
  · rw [frozen_setCells]; exact h.fr o
  · rw [size_setCells']; exact h.lt
theorem eq_dg (x y : Dg) (w : World) : Sem.run Tryz.prog (Op.equalIn 10000 39 (.agg (b8 x.val).toArray) (.agg (b8 y.val).toArray)) w = .ok (decide (x = y)) w := by
  have h := run_dig x.property.1 y.property.1 w
  rw [show decide (x = y) = (x.val == y.val) by
    rw [Bool.eq_iff_iff]
    simp [Subtype.ext_iff]]
  exact h
def dgZeros (n : Nat) : List Value := (Builtin.zeroCells (b8 (List.replicate 16 0)).toArray n).toList
theorem dgZeros_len (n : Nat) : (dgZeros n).length = n * 16 := by simp [dgZeros, Builtin.zeroCells, b8_len]
theorem dgZeros_mem {n : Nat} {v : Value} (h : v ∈ dgZeros n) : v.oneCell' = true := by
  simp only [dgZeros, Builtin.zeroCells, Array.toList_map, List.mem_map] at h
  obtain ⟨i, _, rfl⟩ := h
  have hi : i % (b8 (List.replicate 16 0)).toArray.size < 16 := by
    have : (b8 (List.replicate 16 0)).toArray.size = 16 := rfl
    rw [this]; omega
  generalize i % (b8 (List.replicate 16 0)).toArray.size = k at hi
  have hs : k < (b8 (List.replicate 16 0)).toArray.size := hi
  rw [getElem!_pos _ k hs]
  refine b8_one (List.replicate 16 0) _ ?_
  rw [List.getElem_toArray]
  exact List.getElem_mem _
theorem run_clear_dg (w : World) (ty : TypeId) (b o n c : Nat) (hn : 0 < n) (hc : ∀ j, j < n * 16 → (w.cell? ⟨b, o + j, none⟩).isSome = true) (hf : ∀ j, j < n * 16 → w.frozen? ⟨b, o + j, none⟩ = false) :
    (Builtin.clear_ #[34] ty #[.slice (some ⟨b, o, none⟩) n c]).run Tryz.prog w = .ok (.tuple #[]) (w.setCells b o (dgZeros n)) := by
  have hst := run_storeCells_cells (P := Tryz.prog) b o (dgZeros n) 0 w (by simpa [dgZeros_len] using hc) (by simpa [dgZeros_len] using hf) (fun v hv => dgZeros_mem hv)
  simp only [Nat.add_zero] at hst
  have hz : ∀ w, (zeroValue 39).run Tryz.prog w = .ok (.agg (b8 (List.replicate 16 0)).toArray) w := Tryz.zeroValue39
  obtain ⟨m, rfl⟩ : ∃ m, n = m + 1 := ⟨n - 1, by omega⟩
  unfold dgZeros at hst ⊢
  generalize (b8 (List.replicate 16 0)).toArray = za at hst hz ⊢
  simp [Builtin.clear_, run_underlying Tryz.underlying34, hz, Value.cells, hst]
theorem dg_some {w : World} {b kk j : Nat} {d : Array Dg} (h : DgsAt w b d) (hj : j < (d.size - kk) * 16) : (w.cell? ⟨b, kk * 16 + j, none⟩).isSome = true := by
  have := range_some (h.c (kk + j / 16) (by omega)) (j % 16) (by rw [b8_16]; omega)
  rwa [show (kk + j / 16) * 16 + j % 16 = kk * 16 + j by omega] at this
theorem Fr.drewN {p : Nat} {own : Option Nat} {w w' : World} (h : Fr p own w w') (n : Nat) : Fr p own w (w'.drewN n) := ⟨h.os, h.tape, h.output, h.size, h.block⟩
theorem Fr.set' {p : Nat} {own : Option Nat} {w w' : World} (h : Fr p own w w') (o : Nat) (v : Value) : Fr p own w (w'.setCell ⟨p, o, none⟩ v) := h.trans (.set w' o v) (.refl _ _)
theorem Fr.setCells {p : Nat} {own : Option Nat} {w : World} : ∀ (vs : List Value) (o : Nat) {w' : World}, Fr p own w w' → Fr p own w (w'.setCells p o vs)
  | [], _, _, h => h
  | v :: vs, o, _, h => Fr.setCells vs (o + 1) (h.set' o v)
def CompDone (w : World) (b cap : Nat) (d : Array Dg) (e : Ending) (w' : World) : Prop :=
  e = .returned (.slice (some ⟨b, 0, none⟩) (compactUpTo d d.size).length cap) ∧ Fr b none w w' ∧ ∀ j x, (compactUpTo d d.size)[j]? = some x → w'.rangeAt b (j * 16) (b8 x.val)
theorem dg_store {w : World} {b o : Nat} {d : Array Dg} (h : DgsAt w b d) {k : Nat} (hk : k < d.size) (x : Dg) (ho : o = k * 16) : Sem.run Tryz.prog (storeCells ⟨b, o, none⟩ (b8 x.val)) w = .ok () (w.setCells b o (b8 x.val)) := by
  subst ho
  have := run_storeCells_cells (P := Tryz.prog) b (k * 16) (b8 x.val) 0 w (fun j hj => range_some (h.c k hk) j (by rw [b8_16] at hj ⊢; exact hj)) (fun j _ => h.fr _) (b8_one _)
  simpa using this
set_option maxRecDepth 1000000 in
set_option maxHeartbeats 2000000 in
theorem dg_compact (b cap : Nat) (d : Array Dg) (w : World) (h : DgsAt w b d) (hsz : d.size ≤ 100000) (hcap : d.size ≤ cap) (hcm : cap ≤ maxLen) :
    Calls Tryz.prog 34 #[.slice (some ⟨b, 0, none⟩) d.size cap] w (CompDone w b cap d) := by
  obtain ⟨R, K, LD⟩ := letD
  obtain ⟨Q, hQ⟩ : ∃ Q, CompDone w b cap d = Q := ⟨_, rfl⟩
  rw [hQ]
  have HQ := Lib.hid hQ
  have H := Lib.hid h
  unfold maxLen at hcm
  have HCM := Lib.hid hcm
  have hsz2 : (d.size : Int) ≤ 100000 := by omega
  clear h hQ
  have same : ∀ w', Fr b none w w' → DgsAt w' b d → (∀ j, j < d.size → keeps d j = true) → (compactUpTo d d.size).length = d.size ∧ Q (.returned (.slice (some ⟨b, 0, none⟩) d.size cap)) w' := by
    intro w' hf hp hall
    have e : compactUpTo d d.size = d.toList := by rw [compactUpTo_all d _ hall, range_map_get]
    refine ⟨by rw [e]; simp, ?_⟩
    rw [← HQ.out]
    refine ⟨by rw [e]; simp, hf, fun j x hx => ?_⟩
    rw [e] at hx
    have hj : j < d.size := by simpa using (List.getElem?_eq_some_iff.1 hx).1
    have hxd : d[j]! = x := by simp [hj] at hx ⊢; exact hx
    rw [← hxd]
    exact hp.c j hj
  have HS := Lib.hid same
  clear same
  obtain ⟨n, hn⟩ : ∃ n, d.size = n := ⟨_, rfl⟩
  have HN := Lib.hid hn
  rw [hn] at hsz hsz2 hcap HS ⊢
  clear hn
  have laR : ∀ w, Sem.run Tryz.prog (isAgg R) w = .ok true w := fun w => by rw [LD.ty]; exact Tryz.isAgg39 w
  have lzR : ∀ w, Sem.run Tryz.prog (sizeOf R) w = .ok K w := fun w => by rw [LD.ty, LD.sz]; exact Tryz.sizeOf39 w
  have o1 : ∀ x, Op.load 39 x = Op.load R x := fun x => by rw [LD.ty]
  have o2 : ∀ x y, Op.store 39 x y = Op.store R x y := fun x y => by rw [LD.ty]
  have o3 : ∀ o x y, Op.binOp o 39 x y 39 = Op.binOp o R x y R := fun o x y => by rw [LD.ty]
  have HE := Lib.hid (show ∀ (x y : Dg) w, Sem.run Tryz.prog (Op.equalIn 10000 R (.agg (b8 x.val).toArray) (.agg (b8 y.val).toArray)) w = .ok (decide (x = y)) w from fun x y w => by rw [LD.ty]; exact eq_dg x y w)
  have HG := Lib.hid (show ∀ o t1 t2 (x y : Dg) w, o = BinOp.neq ∨ o = BinOp.eql → Sem.run Tryz.prog (eqGuard o R t1 t2 (.agg (b8 x.val).toArray) (.agg (b8 y.val).toArray)) w = .ok () w from fun o t1 t2 x y w ho => by rw [LD.ty]; rcases ho with rfl | rfl <;> kernel_rfl)
  have HLD := Lib.hid LD
  clear LD
  by_cases h2 : (n : Int) < 2
  · go_enter Tryz.func34, Tryz.ntmps34
    clear o1 o2 o3
    go_wp2_with fail
    exact (HS.out w (.refl _ _ _) H.out (fun j hj => keeps_lt_one d j (by omega))).2
  · go_enter Tryz.func34, Tryz.ntmps34
    simp only [o1, o2, o3]
    clear o1 o2 o3
    go_wp2_with fail
    go_loopg [3] n (fun g s3 wr => ∃ k q : Nat, 1 ≤ k ∧ k ≤ n ∧ n - k ≤ g ∧ s3 = .int .i64 k ∧ wr = w.drewN q ∧ Aside (∀ j, j < k → keeps d j = true))
    case atStart => exact ⟨1, 0, Nat.le_refl _, by omega, by omega, rfl, rfl, keeps_lt_one d⟩
    case round =>
      obtain ⟨k, q, hk1, hk, hg, rfl, rfl, hall⟩ := hrel
      by_cases hlt : k < n
      · obtain ⟨k1, hk1e⟩ : ∃ k1, k - 1 = k1 := ⟨_, rfl⟩
        have hkd : k < d.size := by rw [HN.out]; exact hlt
        have a0 := fun i => ld_mid HLD.out.sz ((H.out.drewN i).c k hkd) (b8_16 _)
        have p0 := fun i => ld_mid HLD.out.sz ((H.out.drewN i).c k1 (by omega)) (b8_16 _)
        generalize hx : d[k]! = x at a0
        generalize hy : d[k1]! = y at p0
        have B := Lib.hid (And.intro hx (And.intro hy hk1e))
        have b1 : 0 ≤ (k : Int) ∧ (k : Int) < n := by omega
        have b2 : 0 ≤ (k1 : Int) ∧ (k1 : Int) < n := by omega
        have b1' := b1.2
        have b2' := b2.2
        have hw2 : wrap64 ((k : Int) - 1) = k1 := by unfold wrap64; omega
        have hw1 : IntKind.i64.wrap ((k : Int) - 1) = k1 := (raw_wrap _).trans hw2
        have hE := HE.out x y
        have hG := fun t1 t2 w => HG.out BinOp.eql t1 t2 x y w (.inr rfl)
        clear hx hy hk1e hkd
        obtain ⟨xv, hxv⟩ : ∃ xv, (b8 x.val).toArray = xv := ⟨_, rfl⟩
        obtain ⟨yv, hyv⟩ : ∃ yv, (b8 y.val).toArray = yv := ⟨_, rfl⟩
        rw [hxv, hyv] at hE
        simp only [hxv, hyv] at hG
        rw [hxv] at a0
        rw [hyv] at p0
        clear hxv hyv
        by_cases hdup : x = y
        · rw [show decide (x = y) = true by simp [hdup]] at hE
          have HDUP := Lib.hid hdup
          clear hdup
          go_upto_region 6 with fail
          go_region
          go_wp2_with fail
          obtain ⟨m, hm⟩ : ∃ m, n - k = m := ⟨_, rfl⟩
          rw [hm]
          have HM := Lib.hid hm
          clear hm a0 p0 hE hG hw1 hw2 b1 b2 b1' b2'
          go_loopg [3, 5] n (fun g s3 s5 wr => ∃ (kk k2 : Nat) (dk : Array Dg), s3 = .int .i64 kk ∧ s5 = .int .i64 k2 ∧ 1 ≤ k2 ∧ k + k2 ≤ n ∧ n - (k + k2) ≤ g ∧ kk < k + k2 ∧ Hid (DgsAt wr b dk ∧ Fr b none w wr ∧ CompInv d (k + k2) kk dk))
          case atStart => exact ⟨k, 1, d, rfl, rfl, Nat.le_refl _, by omega, by omega, by omega, Lib.hid ⟨H.out.drewN _, (Fr.refl _ _ _).drewN _, CompInv.start hall.out (keeps_neg (by omega) (by rw [B.out.1, B.out.2.2, B.out.2.1]; exact HDUP.out))⟩⟩
          case round =>
            obtain ⟨kk, k2, dk, rfl, rfl, h1, hle, hg2, hkk, HI⟩ := hrel
            have hds : dk.size = n := HI.out.2.2.size.trans HN.out
            by_cases hlt2 : k + k2 < n
            · obtain ⟨k3, hk3⟩ : ∃ k3, k2 - 1 = k3 := ⟨_, rfl⟩
              have e2 := HI.out.2.2.high (k + k2) (by omega)
              have e3 := HI.out.2.2.high (k + k3) (by omega)
              have a0 := ld_mid (W := wr.drew) HLD.out.sz ((HI.out.1.drewN 1).c (k + k2) (by omega)) (b8_16 _)
              have p0 := ld_mid (W := wr.drew) HLD.out.sz ((HI.out.1.drewN 1).c (k + k3) (by omega)) (b8_16 _)
              have s0 := fun x => dg_store (o := kk * 16) (w := wr.drew) (HI.out.1.drewN 1) (k := kk) (by omega) x rfl
              rw [e2] at a0
              rw [e3] at p0
              generalize hu : d[k + k2]! = u at a0
              generalize hv : d[k + k3]! = v at p0
              have hs0 := s0 u
              have C := Lib.hid (And.intro hu (And.intro hv hk3))
              rw [Nat.add_mul] at a0 p0
              have hm := HM.out
              have b1 : 0 ≤ (k2 : Int) ∧ (k2 : Int) < m := by omega
              have b2 : 0 ≤ (k3 : Int) ∧ (k3 : Int) < m := by omega
              have b3 : 0 ≤ (kk : Int) ∧ (kk : Int) < n := by omega
              have b1' := b1.2
              have b2' := b2.2
              have b3' := b3.2
              have hw2 : wrap64 ((k2 : Int) - 1) = k3 := by unfold wrap64; omega
              have hw1 : IntKind.i64.wrap ((k2 : Int) - 1) = k3 := (raw_wrap _).trans hw2
              have hE := HE.out u v
              have hG := fun t1 t2 w => HG.out BinOp.neq t1 t2 u v w (.inl rfl)
              obtain ⟨xv, hxv⟩ : ∃ xv, (b8 u.val).toArray = xv := ⟨_, rfl⟩
              obtain ⟨yv, hyv⟩ : ∃ yv, (b8 v.val).toArray = yv := ⟨_, rfl⟩
              rw [hxv, hyv] at hE
              simp only [hxv, hyv] at hG
              rw [hxv] at a0
              rw [hyv] at p0
              rw [show b8 u.val = xv.toList by rw [← hxv]] at hs0
              have HU := Lib.hid hxv
              have hxs : xv.size = K := by rw [← hxv, HLD.out.sz]; simpa using b8_16 u
              clear hu hv hk3 e2 e3 hm s0 hxv hyv
              by_cases huv : u = v
              · rw [show decide (u = v) = true by simp [huv]] at hE
                have HUV := Lib.hid huv
                clear huv
                go_upto_region 11 with fail
                go_region
                go_wp2_with fail
                go_roundg (n - (k + (k2 + 1)))
                case measure => omega
                case rel => exact ⟨kk, k2 + 1, dk, rfl, by go_num, by omega, by omega, Nat.le_refl _, by omega, Lib.hid ⟨HI.out.1.drewN 1, HI.out.2.1.drewN 1, HI.out.2.2.skip (keeps_neg (by omega) (by rw [C.out.1, show k + k2 - 1 = k + k3 by have := C.out.2.2; omega, C.out.2.1]; exact HUV.out))⟩⟩
              · rw [show decide (u = v) = false by simpa using huv] at hE
                have HUV := Lib.hid huv
                clear huv
                go_upto_region 11 with fail
                go_region
                go_wp2_with fail
                go_roundg (n - (k + (k2 + 1)))
                case measure => omega
                case rel =>
                  refine ⟨kk + 1, k2 + 1, dk.setIfInBounds kk u, by go_num, by go_num, by omega, by omega, Nat.le_refl _, by omega, Lib.hid ⟨?_, ?_, ?_⟩⟩
                  · rw [show xv.toList = b8 u.val by rw [← HU.out]]
                    exact (HI.out.1.drewN 1).set (by omega) u
                  · exact Fr.setCells _ _ (HI.out.2.1.drewN 1)
                  have := HI.out.2.2.keep (by rw [HN.out]; exact hlt2) (keeps_pos (by
                    rw [C.out.1, show k + k2 - 1 = k + k3 by have := C.out.2.2; omega, C.out.2.1]
                    exact HUV.out))
                  rw [C.out.1] at this
                  exact this
            · have hcl : ∀ ty, (Builtin.clear_ #[34] ty #[.slice (some ⟨b, kk * 16, none⟩) (n - kk) (cap - kk)]).run Tryz.prog wr = .ok (.tuple #[]) (wr.setCells b (kk * 16) (dgZeros (n - kk))) := fun ty => run_clear_dg wr ty b (kk * 16) (n - kk) (cap - kk) (by omega) (fun j hj => dg_some HI.out.1 (by omega)) (fun j _ => HI.out.1.fr _)
              have b3 : 0 ≤ (kk : Int) ∧ (kk : Int) ≤ n := by omega
              have b4 : (kk : Int) ≤ cap := by omega
              have hmm := HM.out
              have b5 : ¬ (k2 : Int) < m := by omega
              clear hmm
              go_wp2_with fail
              have hI := HI.out.2.2
              rw [show k + k2 = d.size by rw [HN.out]; omega] at hI
              rw [← HQ.out]
              refine ⟨by rw [hI.len], Fr.setCells _ _ HI.out.2.1, fun j x hx => ?_⟩
              have hj : j < kk := by have := (List.getElem?_eq_some_iff.1 hx).1; rw [hI.len] at this; exact this
              have hxe := hI.low j hj
              rw [hx] at hxe
              simp only [Option.some.injEq] at hxe
              rw [hxe]
              intro i u hu
              have hi := (List.getElem?_eq_some_iff.1 hu).1
              rw [b8_16] at hi
              exact (World.cell?_setCells_out b _ _ _ _ (fun _ _ => .inl (by simp only; omega))).trans (HI.out.1.c j (by omega) i u hu)
        · rw [show decide (x = y) = false by simpa using hdup] at hE
          have HDUP := Lib.hid hdup
          clear hdup
          go_upto_region 6 with fail
          go_region
          go_wp2_with fail
          go_roundg (n - (k + 1))
          case measure => omega
          case rel =>
            refine ⟨k + 1, q + 1, by omega, by omega, Nat.le_refl _, by go_num, rfl, fun j hj => ?_⟩
            by_cases e : j = k
            · subst e
              refine keeps_pos ?_
              rw [B.out.1, B.out.2.2, B.out.2.1]
              exact HDUP.out
            · exact hall.out j (by omega)
      · obtain rfl : k = n := by omega
        have hkl : ¬ (k : Int) < k := by omega
        go_wp2_with fail
        exact (HS.out (w.drewN q) ((Fr.refl _ _ _).drewN q) (H.out.drewN q) hall.out).2
end Go.Proofs.YtdeccekeknlnoaaGreatDoor

namespace Go.Proofs.YtdeccekeknlnoaaGreatDoor
open Go.RowKit Go.Sort Go.Lib Go.Shelf
def encD (x : Dg) : List Value := b8 x.val
theorem encD_len (x : Dg) : (encD x).length = 16 := b8_16 x
theorem encD_one (x : Dg) : ∀ u ∈ encD x, u.oneCell' = true := b8_one _
def dgFlat (l : List Dg) : List Value := l.flatMap fun p => b8 p.val
theorem dgFlat_snoc (l : List Dg) (p : Dg) : dgFlat (l ++ [p]) = dgFlat l ++ b8 p.val := by simp [dgFlat]
theorem dgFlat_at : ∀ (l : List Dg) (i : Nat) (p : Dg) (j : Nat) (u : Value), l[i]? = some p → (b8 p.val)[j]? = some u → (dgFlat l)[i * 16 + j]? = some u
  | [], _, _, _, _, h, _ => by simp at h
  | q :: l, 0, p, j, u, h, hu => by
    simp only [List.getElem?_cons_zero, Option.some.injEq] at h
    subst h
    have hj := (List.getElem?_eq_some_iff.1 hu).1
    rw [show dgFlat (q :: l) = b8 q.val ++ dgFlat l by simp [dgFlat], Nat.zero_mul, Nat.zero_add, List.getElem?_append_left hj]
    exact hu
  | q :: l, i + 1, p, j, u, h, hu => by
    have I := dgFlat_at l i p j u (by simpa using h) hu
    rw [show dgFlat (q :: l) = b8 q.val ++ dgFlat l by simp [dgFlat], List.getElem?_append_right (by rw [b8_16]; omega), b8_16, show (i + 1) * 16 + j - 16 = i * 16 + j by omega]
    exact I
/-- a row of digests of its own -/
def OD (w : World) (B : Nat) (v : Value) (l : List Dg) : Prop := w.ownsRow B 39 16 v l.length (dgFlat l)
theorem OD.nil (w : World) (B : Nat) : OD w B (.slice none 0 0) [] := World.ownsRow_nil _ _ _ _
theorem OD.form {w : World} {B : Nat} {v : Value} {l : List Dg} (h : OD w B v l) (hn : 0 < l.length) : ∃ g c, v = .slice (some ⟨g, 0, none⟩) l.length c ∧ B ≤ g ∧ l.length ≤ c ∧ c ≤ maxLen ∧ DgsAt w g l.toArray := by
  obtain ⟨g, c, hv, hg, hlt, hc, hm, hx⟩ := own_cells h hn
  refine ⟨g, c, hv, hg, hc, hm, fun j hj => ?_, ?_, hlt⟩
  · have hj' : j < l.length := by simpa using hj
    intro i u hu
    refine hx _ _ (dgFlat_at l j l[j] i u (List.getElem?_eq_getElem hj') ?_)
    rw [show (l.toArray)[j]! = l[j] by simp [hj']] at hu
    exact hu
  · obtain ⟨-, ⟨hz, -⟩ | ⟨g', cap, cur, h1, h2, h3, -⟩⟩ := h
    · rw [hv] at hz; cases hz
    · rw [hv] at h1
      simp only [Value.slice.injEq, Option.some.injEq, Addr.mk.injEq, and_true, true_and] at h1
      obtain ⟨rfl, -⟩ := h1
      intro o
      simp [World.frozen?, h3]
theorem OD.below {w w' : World} {B : Nat} {v : Value} {l : List Dg} (h : OD w B v l) (hb : Below w.heap.size w w') : OD w' B v l :=
  own_frame h fun k hk => hb.block k (h.lt k hk).2
/-- slices.Contains at a row of its own -/
theorem dg_contains {w : World} {B : Nat} {v : Value} {l : List Dg} (h : OD w B v l) (hn : 0 < l.length) (hl : l.length ≤ 100000) (x : Dg) :
    Calls Tryz.prog 31 #[v, .agg (b8 x.val).toArray] w fun e w' => e = .returned (.bool (decide (x ∈ l))) ∧ Below w.heap.size w w' := by
  obtain ⟨g, c, rfl, -, -, -, hd⟩ := h.form hn
  have heq : EqlAt Tryz.prog 39 (fun x : Dg => .agg (encD x).toArray) (fun x y => decide (x = y)) := by
    refine ⟨fun x y w => ?_, ?_⟩
    · have h : Sem.run Tryz.prog (Op.equal 39 (.agg (b8 x.val).toArray) (.agg (b8 y.val).toArray)) w = _ := eq_dg x y w
      simp only [binOp, Sem.run_bind, encD]
      rw [h]
      rfl
    · exact GuardAt.agg (fun x : Dg => (encD x).toArray) (by kernel_rfl)
  have := AnyQ.slices_Contains Tryz.laysCont 16 Tryz.isAgg39 Tryz.sizeOf39 encD encD_len (fun x y => decide (x = y)) heq g 0 l.length c l x w (Nat.le_refl _) (by omega) (fun j hj i u hu => by
    have hh := hd.c j (by simpa using hj) i u (by
      rw [show (l.toArray)[j]! = l[j]! by simp]
      exact hu)
    simpa using hh)
  refine this.mono ?_
  rintro e w' ⟨rfl, hb⟩
  refine ⟨?_, hb⟩
  congr 2
  rw [List.take_length, Bool.eq_iff_iff]
  simp [List.any_eq_true]
/-! sorting -/
theorem dgs_holds {w : World} {b : Nat} {d : Array Dg} (h : DgsAt w b d) : HoldsK encD 16 w b 0 d := by
  intro t ht
  rw [size_flatK] at ht
  rw [get_flatK _ _ _ _ ht, Nat.zero_add]
  refine ⟨?_, h.fr _⟩
  have hl := encD_len d[t / 16]!
  have := h.c (t / 16) (by omega) (t % 16) ((encD d[t / 16]!)[t % 16]'(by rw [hl]; omega)) (List.getElem?_eq_getElem _)
  rw [show t / 16 * 16 + t % 16 = t by omega] at this
  rw [this]
  simp only [id]
  simp only [List.getElem!_eq_getElem?_getD]
  rw [List.getElem?_eq_getElem (by rw [hl]; omega)]
  rfl
theorem fr_sort {w : World} {b n : Nat} {d : Array Dg} {os : Array Obj} : Fr b none w (sortWorldK encD 16 w b 0 n d os) := by
  refine ⟨rfl, rfl, rfl, ?_, fun k hk hp _ => ?_⟩
  · exact size_sortWorldK_c encD 16 w b 0 n d os
  · show ((Go.Sort.putRow id (Sort.ahead w n) b 0 (flatK encD 16 d)).heap ++ os)[k]? = _
    have hs : (Go.Sort.putRow id (Sort.ahead w n) b 0 (flatK encD 16 d)).heap.size = w.heap.size := by simp [Go.Sort.putRow, mapBlock]
    rw [Array.getElem?_append_left (by rw [hs]; exact hk)]
    simp only [Go.Sort.putRow, mapBlock, Array.getElem?_modify]
    rw [if_neg (Ne.symm hp)]
    rfl
theorem dgs_sort {w : World} {b n : Nat} {d d' : Array Dg} {os : Array Obj} (h : DgsAt w b d) (hs : d'.size = d.size) : DgsAt (sortWorldK encD 16 w b 0 n d' os) b d' := by
  have hh := holdsK_sortWorldK_c encD 16 w b 0 d d' n os (dgs_holds h) h.lt hs
  have hz := size_sortWorldK_c encD 16 w b 0 n d' os
  refine ⟨fun j hj i u hu => ?_, fun o => ?_, Nat.lt_of_lt_of_le h.lt hz⟩
  · have hi := (List.getElem?_eq_some_iff.1 hu).1
    rw [b8_16] at hi
    have := (hh.cell (i := j) (c := i) hj hi).1
    have e : (encD d'[j]!)[i]! = u := by
      have := hu
      rw [show b8 d'[j]!.val = encD d'[j]! from rfl] at this
      simp [this]
    first
      | simpa [e] using this
      | (simp only [Nat.zero_add, id] at this; rw [this, e])
  · unfold sortWorldK
    rw [frozen?_grow _ _ _ (by rw [size_putRowK]; exact h.lt)]
    unfold putRowK
    rw [frozen?_putRow]
    exact h.fr o
theorem cmp_lays (b size : Nat) (w : World) : CmpLays Tryz.prog 33 #[] encD 16 cmpD b 0 size w := fun m os dk _ x y => by
  have := ho_compare x y (sortWorldK encD 16 w b 0 m dk os)
  simp only [Array.append_empty]
  exact this
theorem dg_enters : ∀ args w, (callFunc 33 args).run Tryz.prog w = .ok (.enter 33 args) w := Go.Proofs.enters_of Tryz.func33 (by kernel_rfl) rfl
theorem sort_none (A3 : Option Addr) (cap3 : Nat) (fv : Value) (w : World) : Calls Tryz.prog 32 #[.slice A3 0 cap3, fv] w fun e w' => e = .returned (.tuple #[]) ∧ w' = w := Go.Proofs.AnyF.slices_SortFunc_none Tryz.laysSort A3 cap3 fv w
def Sorted (w : World) (g : Nat) (l : List Dg) (e : Ending) (w' : World) : Prop :=
  e = .returned (.tuple #[]) ∧ ∃ d' : Array Dg, d'.size = l.length ∧ Norm l (compactUpTo d' d'.size) ∧ DgsAt w' g d' ∧ Fr g none w w'
theorem sort_some {w : World} {g cap : Nat} {l : List Dg} (hp : DgsAt w g l.toArray) (hl : l.length ≤ 100000) :
    Calls Tryz.prog 32 #[.slice (some ⟨g, 0, none⟩) l.length cap, .func (.func 33) #[] #[]] w (Sorted w g l) := by
  obtain ⟨d, hd⟩ : ∃ d, l.toArray = d := ⟨_, rfl⟩
  have hds : d.size = l.length := by rw [← hd]; simp
  rw [hd] at hp
  have hc := AnyQ.slices_SortFunc Tryz.laysSort 16 (Tryz.isAgg39) (Tryz.sizeOf39) encD encD_len encD_one cmpD swo_dg 33 #[] g 0 cap d w dg_enters (cmp_lays g d.size w) (dgs_holds hp) hp.lt (by rw [hds]; omega)
  rw [hds] at hc
  refine hc.mono ?_
  rintro e w' ⟨rfl, d', n, os, hperm, hsort, rfl⟩
  have hs' : d'.size = l.length := by rw [hperm.1, hds]
  refine ⟨rfl, d', hs', norm_of ?_ ?_, dgs_sort hp hperm.1, fr_sort⟩
  · have := hperm.2.2
    have e1 : d'.extract 0 l.length = d' := by rw [← hs']; simp
    have e2 : d.extract 0 l.length = d := by rw [← hds]; simp
    rw [e1, e2, ← hd] at this
    simpa using this
  · intro i j hij hj
    exact dlt_false (hsort i j (Nat.zero_le _) hij (by omega))
theorem dg_compact_none (a : Option Addr) (cap : Nat) (w : World) : Calls Tryz.prog 34 #[.slice a 0 cap] w fun e w' => e = .returned (.slice a 0 cap) ∧ w' = w := by
  go_enter Tryz.func34, Tryz.ntmps34
  go_wp2_with fail
  go_ret
  exact ⟨rfl, rfl⟩
end Go.Proofs.YtdeccekeknlnoaaGreatDoor

namespace Go.Proofs.YtdeccekeknlnoaaGreatDoor
open Go.RowKit Go.Sort Go.Lib Go.Shelf
def mvl (m : Int × Dg × Dg) : List Value := .int .i64 m.1 :: (b8 m.2.1.val ++ b8 m.2.2.val)
theorem mvl_len (m : Int × Dg × Dg) : (mvl m).length = 33 := by simp [mvl, b8_16]
theorem mvl_one (m : Int × Dg × Dg) : ∀ u ∈ mvl m, u.oneCell' = true := fun u hu => by
  simp only [mvl, List.mem_cons, List.mem_append] at hu
  rcases hu with rfl | hu | hu
  · rfl
  · exact b8_one _ u hu
  · exact b8_one _ u hu
def grl (s : Int) (d : Dg) (r : List Value) : List Value := .int .i64 s :: (b8 d.val ++ r)
def mvStep (s : Int) (acc : List Dg) (m : Int × Dg × Dg) : List Dg := if m.1 = s ∧ m.2.1 ∈ acc then acc ++ [m.2.2] else acc
def accTo (s : Int) (dev : Dg) (ms : List (Int × Dg × Dg)) (k : Nat) : List Dg := (ms.take k).foldl (mvStep s) [dev]
theorem accTo_succ {s : Int} {dev : Dg} {ms : List (Int × Dg × Dg)} {k : Nat} {m : Int × Dg × Dg} (h : ms[k]? = some m) : accTo s dev ms (k + 1) = mvStep s (accTo s dev ms k) m := by
  have hkl := (List.getElem?_eq_some_iff.1 h).1
  unfold accTo
  rw [List.take_succ_eq_append_getElem hkl, List.foldl_append]
  rw [List.getElem?_eq_getElem hkl] at h
  simp only [Option.some.injEq] at h
  rw [h]
  rfl
theorem accTo_len (s : Int) (dev : Dg) (ms : List (Int × Dg × Dg)) : ∀ k, k ≤ ms.length → 0 < (accTo s dev ms k).length ∧ (accTo s dev ms k).length ≤ k + 1
  | 0, _ => by simp [accTo]
  | k + 1, h => by
    have I := accTo_len s dev ms k (by omega)
    rw [accTo_succ (List.getElem?_eq_getElem (show k < ms.length by omega))]
    unfold mvStep
    split
    · rw [List.length_append]; simp only [List.length_cons, List.length_nil]; omega
    · omega
def MvAt (w : World) (A : Option Addr) (ms : List (Int × Dg × Dg)) : Prop := ∀ i m, ms[i]? = some m → ∃ b off, A = some ⟨b, off, none⟩ ∧ b < w.heap.size ∧ w.rangeAt b (off + i * 33) (mvl m)
def HoldSay (w : World) (l : List Dg) (e : Ending) (w' : World) : Prop := ∃ v o, e = .returned v ∧ Norm l o ∧ RDigs w' w'.heap.size v (o.map (·.val)) ∧ Below w.heap.size w w'
structure LetH (G NG M NM R K : Nat) : Prop where
  tyG : G = 43
  szG : NG = 20
  tyM : M = 55
  szM : NM = 33
  ty : R = 39
  sz : K = 16
theorem letH : ∃ G NG M NM R K : Nat, LetH G NG M NM R K := ⟨_, _, _, _, _, _, rfl, rfl, rfl, rfl, rfl, rfl⟩
theorem rdigs_nil (w : World) : RDigs w w.heap.size (.slice none 0 0) [] := ⟨none, 0, rfl, Nat.le_refl _, by unfold maxLen; omega, fun h => absurd h (by simp)⟩
theorem norm_nil : Norm [] [] := ⟨List.Pairwise.nil, fun _ => Iff.rfl⟩
set_option maxRecDepth 1000000 in
set_option maxHeartbeats 1000000 in
/-- no grant and no move of this secret: nobody -/
theorem ho_none (sec s : Int) (dev : Dg) (r : List Value) (hr : r.length = 3) (hr1 : ∀ u ∈ r, u.oneCell' = true) (ms : List (Int × Dg × Dg)) (gb gc mc : Nat) (A : Option Addr) (w : World)
    (hg : w.rangeAt gb 0 (grl sec dev r)) (hm : MvAt w A ms) (hl : ms.length ≤ 1000) (hs : sec ≠ s) (hall : ∀ m ∈ ms, m.1 ≠ s) :
    Calls Tryz.prog 15 #[.slice (some ⟨gb, 0, none⟩) 1 gc, .slice A ms.length mc, .int .i64 s] w fun e w' => e = .returned (.slice none 0 0) ∧ Below w.heap.size w w' := by
  obtain ⟨G, NG, M, NM, R, K, L⟩ := letH
  have hgl : (grl sec dev r).length = 20 := by simp [grl, b8_16, hr]
  have hg1 : ∀ u ∈ grl sec dev r, u.oneCell' = true := fun u hu => by
    simp only [grl, List.mem_cons, List.mem_append] at hu
    rcases hu with rfl | hu | hu
    · rfl
    · exact b8_one _ u hu
    · exact hr1 u hu
  obtain ⟨gv, hgv⟩ : ∃ gv, (grl sec dev r).toArray = gv := ⟨_, rfl⟩
  have hgs : gv.size = 20 := by rw [← hgv]; simpa using hgl
  have hl1 := ld_mid (N := NG) (n := 20) L.szG hg hgl
  have hs1 := st_new (w := w) (cs := gv) (z := #[.int .i64 0, .int .u8 0, .int .u8 0, .int .u8 0, .int .u8 0, .int .u8 0, .int .u8 0, .int .u8 0, .int .u8 0, .int .u8 0, .int .u8 0, .int .u8 0, .int .u8 0, .int .u8 0, .int .u8 0, .int .u8 0, .int .u8 0, .string ⟨#[]⟩, .slice none 0 0, .slice none 0 0]) (t := 43) (by rw [hgs]; rfl) (by rw [← hgv, Array.all_eq_true_iff_forall_mem]; intro u hu; exact hg1 u (by simpa using hu))
  rw [hgv] at hl1
  have hgsN : gv.size = NG := by rw [hgs, L.szG]
  have laG : ∀ w, Sem.run Tryz.prog (isAgg G) w = .ok true w := fun w => by rw [L.tyG]; exact Tryz.isAgg43 w
  have lzG : ∀ w, Sem.run Tryz.prog (sizeOf G) w = .ok NG w := fun w => by rw [L.tyG, L.szG]; exact Tryz.sizeOf43 w
  have laM : ∀ w, Sem.run Tryz.prog (isAgg M) w = .ok true w := fun w => by rw [L.tyM]; exact Tryz.isAgg55 w
  have lzM : ∀ w, Sem.run Tryz.prog (sizeOf M) w = .ok NM w := fun w => by rw [L.tyM, L.szM]; exact Tryz.sizeOf55 w
  have o1 : ∀ x, Op.load 43 x = Op.load G x := fun x => by rw [L.tyG]
  have o2 : ∀ x y, Op.store 43 x y = Op.store G x y := fun x y => by rw [L.tyG]
  have o3 : ∀ x, Op.load 55 x = Op.load M x := fun x => by rw [L.tyM]
  have o4 : ∀ x y, Op.store 55 x y = Op.store M x y := fun x y => by rw [L.tyM]
  obtain ⟨W0, hW0⟩ : ∃ W0, w.alloc (.cells gv 43) = W0 := ⟨_, rfl⟩
  have c0 : W0.cell? ⟨w.heap.size, 0, none⟩ = some (.int .i64 sec) := by
    have := range_block (heap_alloc_new w (.cells gv 43)) 0 (.int .i64 sec) (by rw [← hgv]; rfl)
    rw [← hW0]; simpa using this
  have hb0 : Below w.heap.size w W0 := by rw [← hW0]; exact Below.new _
  have HH := Lib.hid (And.intro hb0 (And.intro hm (And.intro hall L)))
  have HW0 := Lib.hid hW0
  obtain ⟨n, hn⟩ : ∃ n, ms.length = n := ⟨_, rfl⟩
  have HN := Lib.hid hn
  rw [hn] at hl ⊢
  have hn2 : (n : Int) ≤ 1000 := by omega
  clear hgl hg1 hgv hgs hb0 hm hall L hr hr1 hg hn hW0
  go_enter Tryz.func15, Tryz.ntmps15
  simp only [o1, o2, o3, o4]
  clear o1 o2 o3 o4
  go_wp2_with fail
  refine wp_loop_rounds 2 ?_
  rw [rounds_succ]
  go_upto_region 5 with fail
  rw [HW0.out]
  go_wp2_with fail
  rw [rounds_succ]
  go_wp2_with fail
  clear c0 hs1 hl1
  try rw [show (sec == s) = false by simpa using hs]
  go_loopg [7, 30] n (fun g s7 s30 wr => ∃ k : Nat, k + g = n ∧ s30 = .int .i64 k ∧ s7 = .slice none 0 0 ∧ Hid (Below w.heap.size w wr))
  case atStart => exact ⟨0, by omega, rfl, rfl, Lib.hid HH.out.1⟩
  case round =>
    obtain ⟨k, hk, rfl, rfl, HB⟩ := hrel
    cases gk with
    | zero =>
      obtain rfl : k = n := by omega
      have hi : ¬ (k : Int) < k := by omega
      go_wp2_with (first
        | (go_at_call 32; (with_reducible refine (sort_none _ _ _ _).mono ?_); rintro e w5 ⟨rfl, hw⟩; subst hw)
        | (go_at_call 34; (with_reducible refine (dg_compact_none _ _ _).mono ?_); rintro e w5 ⟨rfl, hw⟩; subst hw))
      go_ret
      exact ⟨rfl, HB.out⟩
    | succ g =>
      obtain ⟨m, hm⟩ : ∃ m, ms[k]? = some m := ⟨_, List.getElem?_eq_getElem (by have := HN.out; omega)⟩
      obtain ⟨hb0, hma, hall, L⟩ := HH.out
      obtain ⟨mb, off, rfl, hlt, hr⟩ := hma k m hm
      have hne : m.1 ≠ s := hall m (List.mem_of_getElem? hm)
      have hr' : wr.rangeAt mb (off + k * 33) (mvl m) := fun j u hu => (HB.out.cell (p := ⟨mb, _, none⟩) hlt).trans (hr j u hu)
      have hl2 := ld_mid (N := NM) (n := 33) L.szM hr' (mvl_len m)
      obtain ⟨mv, hmv⟩ : ∃ mv, (mvl m).toArray = mv := ⟨_, rfl⟩
      have hms : mv.size = 33 := by rw [← hmv]; simpa using mvl_len m
      rw [hmv] at hl2
      have hs2 := st_new (w := wr) (cs := mv) (z := (.int .i64 0 :: List.replicate 32 (.int .u8 0)).toArray) (t := 55) (by rw [hms]; rfl) (by rw [← hmv, Array.all_eq_true_iff_forall_mem]; intro u hu; exact mvl_one m u (by simpa using hu))
      simp only [List.replicate] at hs2
      have hmsN : mv.size = NM := by rw [hms, L.szM]
      have c0 : (wr.alloc (.cells mv 55)).cell? ⟨wr.heap.size, 0, none⟩ = some (.int .i64 m.1) := by
        have := range_block (heap_alloc_new wr (.cells mv 55)) 0 (.int .i64 m.1) (by rw [← hmv]; rfl)
        simpa using this
      have hb1 : Below w.heap.size w (wr.alloc (.cells mv 55)) := HB.out.trans ((Below.new _).mono HB.out.size)
      obtain ⟨W1, hW1⟩ : ∃ W1, wr.alloc (.cells mv 55) = W1 := ⟨_, rfl⟩
      rw [hW1] at c0 hb1
      have HW1 := Lib.hid hW1
      have HB1 := Lib.hid hb1
      have hi : (k : Int) < n := by omega
      have hi2 : 0 ≤ (k : Int) ∧ (k : Int) < n := by omega
      have w3 : wrap64 ((k : Int) + 1) = (k : Int) + 1 := by unfold wrap64; omega
      clear hm hb0 hma hall L hlt hr hr' hmv hms hb1 hW1
      go_upto_region 11 with fail
      rw [HW1.out]
      go_wp2_with fail
      go_roundg g
      case measure => omega
      case rel => exact ⟨k + 1, by omega, by first | rfl | go_num, rfl, HB1⟩
end Go.Proofs.YtdeccekeknlnoaaGreatDoor

namespace Go.Proofs.YtdeccekeknlnoaaGreatDoor
open Go.RowKit Go.Sort Go.Lib Go.Shelf
/-- the end of Holders: sorted, compacted -/
theorem hold_close {w w4 w5 w6 : World} {l : List Dg} {g c : Nat} {d' : Array Dg} {e : Ending} (hb : Below w.heap.size w w4) (hg : w.heap.size ≤ g) (hgl : g < w4.heap.size) (hn : Norm l (compactUpTo d' d'.size)) (hs : Fr g none w4 w5) (hc : CompDone w5 g c d' e w6) (hl : d'.size ≤ c) (hcm : c ≤ maxLen) : HoldSay w l e w6 := by
  obtain ⟨rfl, hf, hcell⟩ := hc
  have hF := hs.trans hf (.refl _ _)
  have hlen : (compactUpTo d' d'.size).length ≤ c := Nat.le_trans (by
    have h : ∀ m, (compactUpTo d' m).length ≤ m := fun m => by
      induction m with
      | zero => simp [compactUpTo]
      | succ m ih =>
        rw [compactUpTo_succ, List.length_append]
        split
        · simp only [List.length_cons, List.length_nil]; omega
        · simp only [List.length_nil]; omega
    exact h d'.size) hl
  refine ⟨_, _, rfl, hn, ⟨some ⟨g, 0, none⟩, c, by rw [List.length_map], by rw [List.length_map]; exact hlen, hcm, fun _ => ⟨g, 0, rfl, Nat.lt_of_lt_of_le hgl hF.size, fun i d hi => ?_⟩⟩, hb.trans ((hF.below (Nat.le_of_lt hgl) (fun k hk => by cases hk)).mono hg)⟩
  rw [List.getElem?_map] at hi
  obtain ⟨x, hx, rfl⟩ := Option.map_eq_some_iff.1 hi
  refine ⟨x.property.1, fun j y hy => ?_⟩
  rw [Nat.zero_add]
  exact hcell i x hx j _ (by simp [b8, hy])
theorem OB_mono_dg {w : World} {B C : Nat} {v : Value} {l : List Dg} (h : OD w C v l) (hb : B ≤ C) : OD w B v l := by
  refine ⟨h.1, ?_⟩
  rcases h.2 with h1 | ⟨g, cap, cur, h1, h2, h3⟩
  · exact .inl h1
  · exact .inr ⟨g, cap, cur, h1, Nat.le_trans hb h2, h3⟩
set_option maxRecDepth 1000000 in
set_option maxHeartbeats 2000000 in
theorem ho_some (s : Int) (dev : Dg) (r : List Value) (hr : r.length = 3) (hr1 : ∀ u ∈ r, u.oneCell' = true) (ms : List (Int × Dg × Dg)) (gb gc mc : Nat) (A : Option Addr) (w : World)
    (hg : w.rangeAt gb 0 (grl s dev r)) (hm : MvAt w A ms) (hl : ms.length ≤ 1000) :
    Calls Tryz.prog 15 #[.slice (some ⟨gb, 0, none⟩) 1 gc, .slice A ms.length mc, .int .i64 s] w (HoldSay w (accTo s dev ms ms.length)) := by
  obtain ⟨S, hS⟩ : ∃ S : Ending → World → Prop, HoldSay w (accTo s dev ms ms.length) = S := ⟨_, rfl⟩
  rw [hS]
  have HSS := Lib.hid hS
  obtain ⟨G, NG, M, NM, R, K, L⟩ := letH
  have hgl : (grl s dev r).length = 20 := by simp [grl, b8_16, hr]
  have hg1 : ∀ u ∈ grl s dev r, u.oneCell' = true := fun u hu => by
    simp only [grl, List.mem_cons, List.mem_append] at hu
    rcases hu with rfl | hu | hu
    · rfl
    · exact b8_one _ u hu
    · exact hr1 u hu
  obtain ⟨gv, hgv⟩ : ∃ gv, (grl s dev r).toArray = gv := ⟨_, rfl⟩
  have hgs : gv.size = 20 := by rw [← hgv]; simpa using hgl
  have hl1 := ld_mid (N := NG) (n := 20) L.szG hg hgl
  have hs1 := st_new (w := w) (cs := gv) (z := #[.int .i64 0, .int .u8 0, .int .u8 0, .int .u8 0, .int .u8 0, .int .u8 0, .int .u8 0, .int .u8 0, .int .u8 0, .int .u8 0, .int .u8 0, .int .u8 0, .int .u8 0, .int .u8 0, .int .u8 0, .int .u8 0, .int .u8 0, .string ⟨#[]⟩, .slice none 0 0, .slice none 0 0]) (t := 43) (by rw [hgs]; rfl) (by rw [← hgv, Array.all_eq_true_iff_forall_mem]; intro u hu; exact hg1 u (by simpa using hu))
  rw [hgv] at hl1
  have hgsN : gv.size = NG := by rw [hgs, L.szG]
  have laG : ∀ w, Sem.run Tryz.prog (isAgg G) w = .ok true w := fun w => by rw [L.tyG]; exact Tryz.isAgg43 w
  have lzG : ∀ w, Sem.run Tryz.prog (sizeOf G) w = .ok NG w := fun w => by rw [L.tyG, L.szG]; exact Tryz.sizeOf43 w
  have laM : ∀ w, Sem.run Tryz.prog (isAgg M) w = .ok true w := fun w => by rw [L.tyM]; exact Tryz.isAgg55 w
  have lzM : ∀ w, Sem.run Tryz.prog (sizeOf M) w = .ok NM w := fun w => by rw [L.tyM, L.szM]; exact Tryz.sizeOf55 w
  have laR : ∀ w, Sem.run Tryz.prog (isAgg R) w = .ok true w := fun w => by rw [L.ty]; exact Tryz.isAgg39 w
  have lzR : ∀ w, Sem.run Tryz.prog (sizeOf R) w = .ok K w := fun w => by rw [L.ty, L.sz]; exact Tryz.sizeOf39 w
  have o1 : ∀ x, Op.load 43 x = Op.load G x := fun x => by rw [L.tyG]
  have o2 : ∀ x y, Op.store 43 x y = Op.store G x y := fun x y => by rw [L.tyG]
  have o3 : ∀ x, Op.load 55 x = Op.load M x := fun x => by rw [L.tyM]
  have o4 : ∀ x y, Op.store 55 x y = Op.store M x y := fun x y => by rw [L.tyM]
  have o5 : ∀ x, Op.load 39 x = Op.load R x := fun x => by rw [L.ty]
  obtain ⟨X1, hX1⟩ : ∃ X1, w.alloc (.cells gv 43) = X1 := ⟨_, rfl⟩
  have hb0 : Below w.heap.size w X1 := by rw [← hX1]; exact Below.new _
  have eg : X1.heap[w.heap.size]? = some (.cells gv 43 (0, 0)) := by rw [← hX1]; exact heap_alloc_new _ _
  have c0 : X1.cell? ⟨w.heap.size, 0, none⟩ = some (.int .i64 s) := by
    have := range_block eg 0 (.int .i64 s) (by rw [← hgv]; rfl)
    simpa using this
  have hr3 : X1.rangeAt w.heap.size 1 (b8 dev.val) := fun j u hu => by
    have := range_block eg (1 + j) u (by
      rw [← hgv]
      show (grl s dev r)[1 + j]? = _
      rw [grl, Nat.add_comm 1 j, List.getElem?_cons_succ, List.getElem?_append_left (List.getElem?_eq_some_iff.1 hu).1]
      exact hu)
    rwa [Nat.zero_add] at this
  have hl3 := ld_mid (N := K) (n := 16) L.sz hr3 (b8_16 dev)
  have hbd := fun w => build_digs dev.property.1 w
  have HL16 := Lib.hid (show (b8 dev.val).length = 1 * 16 by rw [b8_16])
  obtain ⟨dv, hdv⟩ : ∃ dv, (b8 dev.val).toArray = dv := ⟨_, rfl⟩
  have HDV := Lib.hid hdv
  rw [hdv] at hl3 hbd
  obtain ⟨ze, hie, hzz⟩ := info_dig
  obtain ⟨i0, hi, hz0, hz1, hz2⟩ := info_parts hie
  have HN1 := Lib.hid (show ∀ j u, (b8 dev.val)[j]? = some u → (X1.alloc (.cells dv 39)).cell? ((⟨X1.heap.size, 0, none⟩ : Addr).add j) = some u from fun j u hu => by
    have := range_block (heap_alloc_new X1 (.cells dv 39)) j u (by rw [← hdv]; exact hu)
    rwa [Addr.add_mid])
  have HI := Lib.hid (And.intro hi (And.intro hz0 (And.intro hz1 (And.intro hz2 hzz))))
  have HH := Lib.hid (And.intro hb0 (And.intro hm L))
  have HX1 := Lib.hid hX1
  obtain ⟨n, hn⟩ : ∃ n, ms.length = n := ⟨_, rfl⟩
  have HN := Lib.hid hn
  rw [hn] at hl ⊢
  have hn2 : (n : Int) ≤ 1000 := by omega
  clear hS hgl hg1 hgv hgs hb0 hm L hr hr1 hg hn hX1 eg hr3 hdv hie hi hz0 hz1 hz2 hzz
  go_enter Tryz.func15, Tryz.ntmps15
  simp only [o1, o2, o3, o4, o5]
  clear o1 o2 o3 o4 o5
  go_wp2_with fail
  refine wp_loop_rounds 2 ?_
  rw [rounds_succ]
  go_upto_region 5 with fail
  rw [HX1.out]
  go_upto_region 6 with fail
  refine wp_region_list ?_
  refine wpList_step (fun K hK => ?_)
  go_simp
  refine hK _ _ ?_
  clear hK K
  try simp only [Act.put, List.setIfInBounds_toArray, List.set_cons_zero, List.set_cons_succ]
  refine wpList_step (fun K hK => ?_)
  go_simp
  refine hK _ _ ?_
  clear hK K
  try simp only [Act.put, List.setIfInBounds_toArray, List.set_cons_zero, List.set_cons_succ]
  refine wpList_step (fun K hK => ?_)
  go_simp
  refine hK _ _ ?_
  clear hK K
  try simp only [Act.put, List.setIfInBounds_toArray, List.set_cons_zero, List.set_cons_succ]
  refine wpList_step (fun K hK => ?_)
  refine step_val rfl (exec_slice1 rfl rfl (hbd X1)) ?_
  refine hK _ _ ?_
  clear hK K
  try simp only [Act.put, List.setIfInBounds_toArray, List.set_cons_zero, List.set_cons_succ]
  refine wpList_append_own _ rfl (.tmp 22) (.tmp 25) 34 rfl X1.heap.size 39 i0 _ 16 16 Tryz.underlying34 HI.out.1 HI.out.2.1 HI.out.2.2.1 HI.out.2.2.2.1 HI.out.2.2.2.2 (by decide) (.slice none 0 0) 0 [] rfl (World.ownsRow_nil _ _ _ _) ⟨X1.heap.size, 0, none⟩ 1 1 (b8 dev.val) rfl HL16.out HN1.out (b8_one _) (by decide) (by decide) (by simp) ?_
  intro v7 W7 hown7 hgr7 _
  have hu7 : Un X1 W7 := (Below.new (.cells dv 39)).trans ((grown_none hgr7).mono (by simp))
  have H7 := Lib.hid (show OD W7 w.heap.size v7 (accTo s dev ms 0) ∧ Below w.heap.size w W7 from ⟨by
    have hh : W7.ownsRow X1.heap.size 39 16 v7 (0 + 1) ([] ++ b8 dev.val) := hown7
    have : OD W7 X1.heap.size v7 [dev] := by
      unfold OD
      simpa [dgFlat] using hh
    exact OB_mono_dg this HH.out.1.size, HH.out.1.trans (hu7.mono HH.out.1.size)⟩)
  clear hown7 hgr7 hu7
  go_wp2_with fail
  rw [rounds_succ]
  go_wp2_with fail
  clear hl1 hl3 hbd c0 hs1
  go_loopg [7, 30] n (fun g s7 s30 wr => ∃ (k : Nat) (v : Value), k + g = n ∧ s30 = .int .i64 k ∧ v = s7 ∧ Hid (OD wr w.heap.size v (accTo s dev ms k) ∧ Below w.heap.size w wr))
  case atStart => exact ⟨0, v7, by omega, rfl, rfl, Lib.hid H7.out⟩
  case round =>
    obtain ⟨k, v8, hk, rfl, rfl, HR⟩ := hrel
    have hal := accTo_len s dev ms k (by have := HN.out; omega)
    cases gk with
    | zero =>
      obtain rfl : k = n := by omega
      have hi : ¬ (k : Int) < k := by omega
      obtain ⟨g, c, rfl, hg, hc, hcm, hd⟩ := HR.out.1.form hal.1
      obtain ⟨na, hna⟩ : ∃ na, (accTo s dev ms k).length = na := ⟨_, rfl⟩
      have hsort := sort_some (cap := c) hd (by omega)
      rw [hna] at hsort hc hal ⊢
      have HA := Lib.hid (And.intro hg (And.intro hc (And.intro hcm (And.intro hd.lt hna))))
      have HSO := Lib.hid hsort
      clear hg hc hcm hd hna hsort
      go_wp2_with (first
        | (go_at_call 32; (with_reducible refine HSO.out.mono ?_); rintro e w5 ⟨rfl, d', hds, hnorm, hdg, hfr⟩; have HD := Lib.hid (And.intro hds (And.intro hnorm (And.intro hdg hfr))); clear hds hnorm hdg hfr; have HCP := Lib.hid (dg_compact g c d' w5 HD.out.2.2.1 (by have := HD.out.1; have := HA.out; omega) (by have := HD.out.1; have := HA.out; omega) HA.out.2.2.1))
        | (go_at_call 34; (have hz := HCP.out); (rw [show d'.size = na by have := HD.out.1; have := HA.out; omega] at hz); (refine hz.mono ?_); (rintro e w6 hcd); (have HCD := Lib.hid hcd); (obtain ⟨rfl, -⟩ := hcd)))
      rw [← HSS.out, HN.out]
      exact hold_close HR.out.2 HA.out.1 HA.out.2.2.2.1 HD.out.2.1 HD.out.2.2.2 HCD.out (by have := HD.out.1; have := HA.out; omega) HA.out.2.2.1
    | succ g =>
      obtain ⟨m, hm⟩ : ∃ m, ms[k]? = some m := ⟨_, List.getElem?_eq_getElem (by have := HN.out; omega)⟩
      have hnext := accTo_succ (s := s) (dev := dev) hm
      obtain ⟨-, hma, L⟩ := HH.out
      obtain ⟨mb, off, rfl, hlt, hr⟩ := hma k m hm
      have hr' : wr.rangeAt mb (off + k * 33) (mvl m) := fun j u hu => (HR.out.2.cell (p := ⟨mb, _, none⟩) hlt).trans (hr j u hu)
      have hl2 := ld_mid (N := NM) (n := 33) L.szM hr' (mvl_len m)
      obtain ⟨mv, hmv⟩ : ∃ mv, (mvl m).toArray = mv := ⟨_, rfl⟩
      have hms : mv.size = 33 := by rw [← hmv]; simpa using mvl_len m
      rw [hmv] at hl2
      have hs2 := st_new (w := wr) (cs := mv) (z := (.int .i64 0 :: List.replicate 32 (.int .u8 0)).toArray) (t := 55) (by rw [hms]; rfl) (by rw [← hmv, Array.all_eq_true_iff_forall_mem]; intro u hu; exact mvl_one m u (by simpa using hu))
      simp only [List.replicate] at hs2
      have hmsN : mv.size = NM := by rw [hms, L.szM]
      obtain ⟨W1, hW1⟩ : ∃ W1, wr.alloc (.cells mv 55) = W1 := ⟨_, rfl⟩
      have em : W1.heap[wr.heap.size]? = some (.cells mv 55 (0, 0)) := by rw [← hW1]; exact heap_alloc_new _ _
      have hbw : Below wr.heap.size wr W1 := by rw [← hW1]; exact Below.new _
      have hb1 : Below w.heap.size w W1 := HR.out.2.trans (hbw.mono HR.out.2.size)
      have c0 : W1.cell? ⟨wr.heap.size, 0, none⟩ = some (.int .i64 m.1) := by
        have := range_block em 0 (.int .i64 m.1) (by rw [← hmv]; rfl)
        simpa using this
      have r1 : W1.rangeAt wr.heap.size 1 (b8 m.2.1.val) := fun j u hu => by
        have := range_block em (1 + j) u (by
          rw [← hmv]
          show (mvl m)[1 + j]? = _
          rw [mvl, Nat.add_comm 1 j, List.getElem?_cons_succ, List.getElem?_append_left (List.getElem?_eq_some_iff.1 hu).1]
          exact hu)
        rwa [Nat.zero_add] at this
      have r2 : W1.rangeAt wr.heap.size 17 (b8 m.2.2.val) := fun j u hu => by
        have := range_block em (17 + j) u (by
          rw [← hmv]
          show (mvl m)[17 + j]? = _
          rw [mvl, show 17 + j = 16 + j + 1 by omega, List.getElem?_cons_succ, List.getElem?_append_right (by rw [b8_16]; omega), b8_16, Nat.add_sub_cancel_left]
          exact hu)
        rwa [Nat.zero_add] at this
      have hod : OD W1 w.heap.size v8 (accTo s dev ms k) := HR.out.1.below hbw
      have lf := ld_mid (N := K) (n := 16) L.sz r1 (b8_16 m.2.1)
      have HCO := Lib.hid (dg_contains hod hal.1 (by omega) m.2.1)
      have HW1 := Lib.hid hW1
      have HB1 := Lib.hid (And.intro hb1 (And.intro hod (And.intro hnext (And.intro r2 (And.intro L (lt_of_block em))))))
      obtain ⟨fv, hfv⟩ : ∃ fv, (b8 m.2.1.val).toArray = fv := ⟨_, rfl⟩
      rw [hfv] at lf HCO
      have hi : (k : Int) < n := by omega
      have hi2 : 0 ≤ (k : Int) ∧ (k : Int) < n := by omega
      have w3 : wrap64 ((k : Int) + 1) = (k : Int) + 1 := by unfold wrap64; omega
      have HAL := Lib.hid hal
      clear hm hma L hlt hr hr' hmv hms hb1 hW1 em hbw r1 r2 hod hnext hfv hal
      by_cases hms1 : m.1 = s
      · go_upto_region 11 with fail
        rw [HW1.out]
        by_cases hin : m.2.1 ∈ accTo s dev ms k
        · rw [show decide (m.2.1 ∈ accTo s dev ms k) = true by simpa using hin] at HCO
          have HIN := Lib.hid (And.intro hms1 hin)
          clear hin
          have e2 : accTo s dev ms (k + 1) = accTo s dev ms k ++ [m.2.2] := by
            rw [HB1.out.2.2.1]
            unfold mvStep
            rw [if_pos HIN.out]
          have HE2 := Lib.hid e2
          clear e2
          have HL2 := Lib.hid (show ∀ V, Below W1.heap.size W1 V → Sem.run Tryz.prog (loadCellsFrom ⟨wr.heap.size, 17, none⟩ 0 K #[]) V = .ok (b8 m.2.2.val).toArray V from fun V hV => ld_mid (N := K) (n := 16) HB1.out.2.2.2.2.1.sz (fun j u hu => (hV.cell (p := ⟨_, _, none⟩) HB1.out.2.2.2.2.2).trans (HB1.out.2.2.2.1 j u hu)) (b8_16 m.2.2))
          have hbd := fun w => build_digs m.2.2.property.1 w
          have HL16 := Lib.hid (show (b8 m.2.2.val).length = 1 * 16 by rw [b8_16])
          have HNW := Lib.hid (show ∀ V : World, ∀ j u, (b8 m.2.2.val)[j]? = some u → (V.alloc (.cells (b8 m.2.2.val).toArray 39)).cell? ((⟨V.heap.size, 0, none⟩ : Addr).add j) = some u from fun V j u hu => by
            have := range_block (heap_alloc_new V (.cells (b8 m.2.2.val).toArray 39)) j u hu
            rwa [Addr.add_mid])
          obtain ⟨tv, htv⟩ : ∃ tv, (b8 m.2.2.val).toArray = tv := ⟨_, rfl⟩
          rw [htv] at hbd HL2 HNW
          clear htv
          go_upto_region 12 with (go_at_call 31; refine HCO.out.mono ?_; rintro e w2 ⟨rfl, hb2⟩; have ht := HL2.out w2 hb2; have HB2 := Lib.hid hb2; clear hb2)
          refine wp_region_list ?_
          refine wpList_step (fun K hK => ?_)
          go_simp
          refine hK _ _ ?_
          clear hK K
          try simp only [Act.put, List.setIfInBounds_toArray, List.set_cons_zero, List.set_cons_succ]
          refine wpList_step (fun K hK => ?_)
          go_simp
          refine hK _ _ ?_
          clear hK K
          try simp only [Act.put, List.setIfInBounds_toArray, List.set_cons_zero, List.set_cons_succ]
          refine wpList_step (fun K hK => ?_)
          go_simp
          refine hK _ _ ?_
          clear hK K
          try simp only [Act.put, List.setIfInBounds_toArray, List.set_cons_zero, List.set_cons_succ]
          refine wpList_step (fun K hK => ?_)
          refine step_val rfl (exec_slice1 rfl rfl (hbd w2)) ?_
          refine hK _ _ ?_
          clear hK K
          try simp only [Act.put, List.setIfInBounds_toArray, List.set_cons_zero, List.set_cons_succ]
          have hown := (HB1.out.2.1.below HB2.out).below (Below.new (.cells tv 39))
          refine wpList_append_own _ rfl (.tmp 44) (.tmp 47) 34 rfl w.heap.size 39 i0 _ 16 16 Tryz.underlying34 HI.out.1 HI.out.2.1 HI.out.2.2.1 HI.out.2.2.2.1 HI.out.2.2.2.2 (by decide) v8 (accTo s dev ms k).length (dgFlat (accTo s dev ms k)) rfl hown ⟨w2.heap.size, 0, none⟩ 1 1 (b8 m.2.2.val) rfl HL16.out (HNW.out w2) (b8_one _) (by have := HAL.out; unfold maxLen; omega) (by have := HAL.out; omega) (by have h1 := HB1.out.1.size; have h2 := HB2.out.size; simp; omega) ?_
          intro v9 W9 hown9 hgr9 _
          have hb9 : Below w.heap.size w W9 := (HB1.out.1.trans ((HB2.out.trans ((Below.new (.cells tv 39)).mono HB2.out.size)).mono HB1.out.1.size)).trans (grown_below hgr9 hown (by have h1 := HB1.out.1.size; have h2 := HB2.out.size; simp; omega))
          have H9 := Lib.hid (show OD W9 w.heap.size v9 (accTo s dev ms (k + 1)) ∧ Below w.heap.size w W9 from ⟨by
            rw [HE2.out]
            unfold OD
            rw [dgFlat_snoc, List.length_append]
            exact hown9, hb9⟩)
          clear hown hown9 hgr9 hb9 ht
          go_wp2_with fail
          go_roundg g
          case measure => omega
          case rel => exact ⟨k + 1, v9, by omega, by first | rfl | go_num, rfl, H9⟩
        · rw [show decide (m.2.1 ∈ accTo s dev ms k) = false by simpa using hin] at HCO
          have HIN := Lib.hid hin
          clear hin
          go_wp2_with (go_at_call 31; refine HCO.out.mono ?_; rintro e w2 ⟨rfl, hb2⟩)
          go_roundg g
          case measure => omega
          case rel =>
            refine ⟨k + 1, v8, by omega, by first | rfl | go_num, rfl, Lib.hid ⟨?_, ?_⟩⟩
            · rw [HB1.out.2.2.1]
              unfold mvStep
              rw [if_neg (fun h => HIN.out h.2)]
              exact HB1.out.2.1.below hb2
            · exact HB1.out.1.trans (hb2.mono HB1.out.1.size)
      · go_upto_region 11 with fail
        rw [HW1.out]
        go_wp2_with fail
        go_roundg g
        case measure => omega
        case rel =>
          refine ⟨k + 1, v8, by omega, by first | rfl | go_num, rfl, Lib.hid ⟨?_, HB1.out.1⟩⟩
          rw [HB1.out.2.2.1]
          unfold mvStep
          rw [if_neg (fun h => hms1 h.1)]
          exact HB1.out.2.1
end Go.Proofs.YtdeccekeknlnoaaGreatDoor
