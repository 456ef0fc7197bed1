/- Chapter 38: package sha: compress. -/
import Derived.Test.YtdeccekeknlnoaaGreatDoorJShA
import Derived.Deep.Cut
import Derived.Deep.DeepCutAuto
import Derived.Deep.RegionHeld3
import Derived.Deep.LoopGhost
import Derived.BigQuiet
import Derived.RegionTactic
import Derived.Outline
namespace Go.Proofs.YtdeccekeknlnoaaGreatDoor
open Go.RowKit
def z8 : Array Value := u32c 8 []
structure CpMem (w W : World) (hs ws : Array Value) : Prop where
  h : W.heap[w.heap.size]? = some (.cells hs 181 (0, 0))
  r : W.heap[w.heap.size + 1]? = some (.cells z8 181 (0, 0))
  a : W.heap[w.heap.size + 1 + 1]? = some (.cells ws 242 (0, 0))
  bel : Below w.heap.size w W
  sz : w.heap.size + 3 ≤ W.heap.size
theorem CpMem.below {w W W' : World} {hs ws : Array Value} (h : CpMem w W hs ws) (hb : Below W.heap.size W W') : CpMem w W' hs ws := by
  have hs := h.sz
  exact ⟨(hb.block _ (by omega)).trans h.h, (hb.block _ (by omega)).trans h.r, (hb.block _ (by omega)).trans h.a, h.bel.trans (hb.mono h.bel.size), Nat.le_trans hs hb.size⟩
theorem sset_other (w : World) (p o : Nat) (v : Value) (k : Nat) (h : k ≠ p) : (w.setCell ⟨p, o, none⟩ v).heap[k]? = w.heap[k]? := by
  simp only [World.setCell, Array.getElem?_modify]
  rw [if_neg (Ne.symm h)]
theorem CpMem.setA {w W : World} {hs : Array Value} {L : List Int} {k : Nat} {x : Int} (h : CpMem w W hs (u32c 64 L)) (hk : L.length = k) (hd : k < 64) : CpMem w (W.setCell ⟨w.heap.size + 1 + 1, k, none⟩ (.int .u32 x)) hs (u32c 64 (L ++ [x])) :=
  ⟨(sset_other _ _ _ _ _ (by omega)).trans h.h, (sset_other _ _ _ _ _ (by omega)).trans h.r, u32_set h.a hk hd, h.bel.setCell (p := ⟨w.heap.size + 1 + 1, k, none⟩) (by simp only; omega) _, by simpa [World.setCell] using h.sz⟩
theorem three_new' {w : World} {o1 o2 o3 : Obj} : ∀ W, ((w.alloc o1).alloc o2).alloc o3 = W → W.heap[w.heap.size]? = some o1 ∧ W.heap[w.heap.size + 1]? = some o2 ∧ W.heap[w.heap.size + 1 + 1]? = some o3 ∧ Below w.heap.size w W ∧ W.heap.size = w.heap.size + 3 := by
  rintro W rfl
  have b1 := Below.new (w := w) o1
  have b2 := Below.new (w := w.alloc o1) o2
  have b3 := Below.new (w := (w.alloc o1).alloc o2) o3
  have e1 := heap_alloc_new w o1
  have e2 := heap_alloc_new (w.alloc o1) o2
  have e3 := heap_alloc_new ((w.alloc o1).alloc o2) o3
  simp only [World.size_alloc] at b2 b3 e2 e3
  refine ⟨(b3.block _ (by omega)).trans ((b2.block _ (by omega)).trans e1), (b3.block _ (by omega)).trans e2, e3, (b1.trans (b2.mono (by omega))).trans (b3.mono (by omega)), by simp⟩
theorem v8_cells {W : World} {b : Nat} {v : V8} {t : TypeId} (h : W.heap[b]? = some (.cells v.cells t (0, 0))) :
    W.cell? ⟨b, 0, none⟩ = some (.int .u32 v.a) ∧ W.cell? ⟨b, 1, none⟩ = some (.int .u32 v.b) ∧ W.cell? ⟨b, 2, none⟩ = some (.int .u32 v.c) ∧ W.cell? ⟨b, 3, none⟩ = some (.int .u32 v.d) ∧
    W.cell? ⟨b, 4, none⟩ = some (.int .u32 v.e) ∧ W.cell? ⟨b, 5, none⟩ = some (.int .u32 v.f) ∧ W.cell? ⟨b, 6, none⟩ = some (.int .u32 v.g) ∧ W.cell? ⟨b, 7, none⟩ = some (.int .u32 v.h) ∧ ∀ o, W.frozen? ⟨b, o, none⟩ = false := by
  refine ⟨?_, ?_, ?_, ?_, ?_, ?_, ?_, ?_, fun o => ?_⟩ <;> simp [World.cell?, World.frozen?, h, V8.cells]
theorem lt_cell {W : World} {b i : Nat} {v : Value} (h : W.cell? ⟨b, i, none⟩ = some v) : b < W.heap.size := by
  rcases Nat.lt_or_ge b W.heap.size with h1 | h1
  · exact h1
  · simp [World.cell?, Array.getElem?_eq_none h1] at h
theorem al_cell {W : World} {b i : Nat} {v : Value} (o : Obj) (h : W.cell? ⟨b, i, none⟩ = some v) : (W.alloc o).cell? ⟨b, i, none⟩ = some v := ((Below.new o).cell (p := ⟨b, i, none⟩) (lt_cell h)).trans h
theorem al_frozen {W : World} {b i : Nat} {v : Value} (o : Obj) (h : W.cell? ⟨b, i, none⟩ = some v) (hf : W.frozen? ⟨b, i, none⟩ = false) : (W.alloc o).frozen? ⟨b, i, none⟩ = false := ((Below.new o).frozen (p := ⟨b, i, none⟩) (lt_cell h)).trans hf
theorem nc {W : World} {cs : Array Value} {t : TypeId} {i : Nat} {v : Value} (h : cs[i]? = some v) : (W.alloc (.cells cs t)).cell? ⟨W.heap.size, i, none⟩ = some v := by
  simp only [World.cell?, heap_alloc_new W (.cells cs t)]
  simpa using h
theorem sz_drewN (W : World) (n : Nat) : (W.drewN n).heap.size = W.heap.size := rfl
theorem nc' {W : World} {cs : Array Value} {t : TypeId} {B i : Nat} {v : Value} (hs : W.heap.size = B) (h : cs[i]? = some v) : (W.alloc (.cells cs t)).cell? ⟨B, i, none⟩ = some v := by
  subst hs
  exact nc h
theorem st_cell {W : World} {b i j : Nat} {u v : Value} (hn : j ≠ i) (h : W.cell? ⟨b, j, none⟩ = some u) : (W.setCell ⟨b, i, none⟩ v).cell? ⟨b, j, none⟩ = some u := by
  rw [World.cell?_setCell_other]
  · exact h
  · intro e
    cases e
    exact hn rfl
theorem bl2 (W : World) (A B : Obj) (n : Nat) : Below W.heap.size W (((W.drewN n).alloc A).alloc B) := by
  have h1 : Below W.heap.size W (W.drewN n) := ⟨rfl, rfl, rfl, Nat.le_refl _, fun _ _ => rfl⟩
  exact (h1.alloc (Nat.le_refl _) A).alloc (by simp) B
theorem dr_cell {W : World} {a : Addr} {v : Value} {n : Nat} (h : W.cell? a = some v) : (W.drewN n).cell? a = some v := h
theorem dr_frozen {W : World} {a : Addr} {n : Nat} (h : W.frozen? a = false) : (W.drewN n).frozen? a = false := h
theorem dr1_cell {W : World} {a : Addr} {v : Value} (h : W.cell? a = some v) : W.drew.cell? a = some v := h
theorem dr1_frozen {W : World} {a : Addr} (h : W.frozen? a = false) : W.drew.frozen? a = false := h
structure StMem (w W : World) (hs ws : Array Value) (VB : Nat) (cs : Array Value) : Prop where
  c : CpMem w W hs ws
  v : W.heap[VB]? = some (.cells cs 181 (0, 0))
  lo : w.heap.size + 3 ≤ VB
  hi : VB < W.heap.size
theorem StMem.set {w W : World} {hs ws : Array Value} {VB : Nat} {cs : Array Value} (h : StMem w W hs ws VB cs) (i : Nat) (x : Value) : StMem w (W.setCell ⟨VB, i, none⟩ x) hs ws VB (cs.setIfInBounds i x) := by
  have hlo := h.lo
  refine ⟨⟨(sset_other _ _ _ _ _ (by omega)).trans h.c.h, (sset_other _ _ _ _ _ (by omega)).trans h.c.r, (sset_other _ _ _ _ _ (by omega)).trans h.c.a, h.c.bel.setCell (p := ⟨VB, i, none⟩) (by simp only; omega) _, by simpa [World.setCell] using h.c.sz⟩, ?_, hlo, by simpa [World.setCell] using h.hi⟩
  simp [World.setCell, Array.getElem?_modify, h.v]
theorem StMem.put {w W : World} {hs ws : Array Value} {VB : Nat} {x0 x1 x2 x3 x4 x5 x6 x7 : Value} (h : StMem w W hs ws VB #[x0, x1, x2, x3, x4, x5, x6, x7]) (y0 y1 y2 y3 y4 y5 y6 y7 : Value) :
    StMem w ((((((((W.setCell ⟨VB, 0, none⟩ y0).setCell ⟨VB, 1, none⟩ y1).setCell ⟨VB, 2, none⟩ y2).setCell ⟨VB, 3, none⟩ y3).setCell ⟨VB, 4, none⟩ y4).setCell ⟨VB, 5, none⟩ y5).setCell ⟨VB, 6, none⟩ y6).setCell ⟨VB, 7, none⟩ y7) hs ws VB #[y0, y1, y2, y3, y4, y5, y6, y7] := by
  have := (((((((h.set 0 y0).set 1 y1).set 2 y2).set 3 y3).set 4 y4).set 5 y5).set 6 y6).set 7 y7
  simpa using this
def mixC (A B : V8) (i : Nat) : Array Value := ((List.range 8).map fun j => Value.int .u32 (if j < i then (gi A.list j + gi B.list j) % 4294967296 else gi A.list j)).toArray
theorem mixC_succ {A B : V8} {i : Nat} (hi : i < 8) : mixC A B (i + 1) = (mixC A B i).setIfInBounds i (.int .u32 ((gi A.list i + gi B.list i) % 4294967296)) := by
  match i, hi with
  | 0, _ | 1, _ | 2, _ | 3, _ | 4, _ | 5, _ | 6, _ | 7, _ => rfl
theorem mix_cell {W : World} {b i : Nat} {A B : V8} {t : TypeId} (h : W.heap[b]? = some (.cells (mixC A B i) t (0, 0))) (hi : i < 8) :
    W.cell? ⟨b, i, none⟩ = some (.int .u32 (gi A.list i)) ∧ W.frozen? ⟨b, i, none⟩ = false := by
  constructor
  · simp only [World.cell?, h]
    simp [mixC, hi]
  · simp [World.frozen?, h]
theorem arr_cell {W : World} {b i : Nat} {v : V8} {t : TypeId} (h : W.heap[b]? = some (.cells v.cells t (0, 0))) (hi : i < 8) : W.cell? ⟨b, i, none⟩ = some (.int .u32 (gi v.list i)) := by
  simp only [World.cell?, h]
  match i, hi with
  | 0, _ | 1, _ | 2, _ | 3, _ | 4, _ | 5, _ | 6, _ | 7, _ => rfl
theorem rng_block {w : World} {b : Nat} {cs : Array Value} {t : TypeId} (h : w.heap[b]? = some (.cells cs t (0, 0))) : w.rangeAt b 0 cs.toList := by
  intro j v hv
  rw [Nat.zero_add, cell_of_row w b j cs t _ h]
  simpa using hv
theorem loadVar_row {T : TypeId} {d : TypeDesc} (hu : Tryz.prog.underlying T = some d) (hr : d.isRow = true) {n : Nat} (hn : (Tryz.prog.info? T).map (·.size) = some n) {w : World} {b : Nat} {cs : Array Value} (h : w.heap[b]? = some (.cells cs T (0, 0))) (hs : cs.size = n) : (loadVar T ⟨b, 0, none⟩).run Tryz.prog w = .ok (.agg cs) w := by
  have h1 := run_loadVar_mid (P := Tryz.prog) w b 0 T cs.toList _ (rng_block h) hu hr (by rw [show cs.toList.length = n by simpa using hs]; exact hn)
  simpa using h1
theorem results_row {T : TypeId} {d : TypeDesc} (hu : Tryz.prog.underlying T = some d) (hr : d.isRow = true) {n : Nat} (hn : (Tryz.prog.info? T).map (·.size) = some n) {fn : Func} {t : Tmp} (h : fn.results = #[.cell t T]) {tmps : Array Value} {r : Nat} (ht : tmps[t]?.getD undef = .pointer (some ⟨r, 0, none⟩)) {w : World} {cs : Array Value} (hc : w.heap[r]? = some (.cells cs T (0, 0))) (hs : cs.size = n) :
    (results fn tmps).run Tryz.prog w = .ok (.agg cs) w := by
  simp [results, h, ht, asAddr, loadVar_row hu hr hn hc hs]
theorem heap_set {W : World} {b : Nat} {cs : Array Value} {t : TypeId} (h : W.heap[b]? = some (.cells cs t (0, 0))) (i : Nat) (x : Value) : (W.setCell ⟨b, i, none⟩ x).heap[b]? = some (.cells (cs.setIfInBounds i x) t (0, 0)) := by
  simp [World.setCell, Array.getElem?_modify, h]
theorem heap_put8 {W : World} {b : Nat} {x0 x1 x2 x3 x4 x5 x6 x7 : Value} {t : TypeId} (h : W.heap[b]? = some (.cells #[x0, x1, x2, x3, x4, x5, x6, x7] t (0, 0))) (y0 y1 y2 y3 y4 y5 y6 y7 : Value) :
    ((((((((W.setCell ⟨b, 0, none⟩ y0).setCell ⟨b, 1, none⟩ y1).setCell ⟨b, 2, none⟩ y2).setCell ⟨b, 3, none⟩ y3).setCell ⟨b, 4, none⟩ y4).setCell ⟨b, 5, none⟩ y5).setCell ⟨b, 6, none⟩ y6).setCell ⟨b, 7, none⟩ y7).heap[b]? = some (.cells #[y0, y1, y2, y3, y4, y5, y6, y7] t (0, 0)) := by
  have := heap_set (heap_set (heap_set (heap_set (heap_set (heap_set (heap_set (heap_set h 0 y0) 1 y1) 2 y2) 3 y3) 4 y4) 5 y5) 6 y6) 7 y7
  simpa using this
theorem ld_row {W : World} {B n N : Nat} {cs : Array Value} {t : TypeId} (hN : N = n) (h : W.heap[B]? = some (.cells cs t (0, 0))) (hs : cs.size = n) : Sem.run Tryz.prog (loadCellsFrom ⟨B, 0, none⟩ 0 N #[]) W = .ok cs W := by
  have hl := run_loadCells_list (P := Tryz.prog) W ⟨B, 0, none⟩ cs.toList (fun j v hv => by rw [Addr.add_mid]; exact rng_block h j v hv)
  rw [hN, ← hs]
  show Sem.run _ (loadCells _ _) _ = _
  simpa only [Array.length_toList, Array.toArray_toList] using hl
theorem index_k {L : List Int} (hl : L.length = 64) {i : Nat} (hi : i < 64) (w : World) : (Instr.index 242 (.agg (u32c 64 L)) (.int .i64 i)).run Tryz.prog w = .ok (.int .u32 (gi L i)) w := by
  have hz : (u32c 64 L).size = 64 := u32c_size (Nat.le_of_eq hl)
  have hv : (u32c 64 L)[i]? = some (.int .u32 (gi L i)) := by simp [u32c, gi, hl, hi]
  simp [Instr.index, run_underlying Tryz.underlying242, asIntOf, go_sem, hv]
  intro h
  omega
theorem StMem.below {w W W' : World} {hs ws : Array Value} {VB : Nat} {cs : Array Value} (h : StMem w W hs ws VB cs) (hb : Below W.heap.size W W') : StMem w W' hs ws VB cs :=
  ⟨h.c.below hb, (hb.block _ h.hi).trans h.v, h.lo, Nat.lt_of_lt_of_le h.hi hb.size⟩
set_option maxRecDepth 1000000 in
set_option maxHeartbeats 4000000 in
theorem compress_any (v0 : V8) (m : List Nat) (b o c : Nat) (w : World) (hb : b < w.heap.size) (hc : 64 ≤ c) (Ks : List Int) (hKs : Ks.length = 64) (hg3 : w.heap[3]? = some (.cells (u32c 64 Ks) 242 (0, 0))) (hm : ∀ i, i < 64 → w.cell? ⟨b, o + i, none⟩ = some (.int .u8 (nth m i)) ∧ nth m i < 256) :
    Calls Tryz.prog 93 #[.agg v0.cells, .slice (some ⟨b, o, none⟩) 64 c] w (fun e w' => e = .returned (.agg (compressV Ks v0 m).cells) ∧ Below w.heap.size w w') := by
  obtain ⟨hcs, hhcs⟩ : ∃ x, v0.cells = x := ⟨_, rfl⟩
  obtain ⟨W, hW⟩ : ∃ W, (((w.alloc (.cells v0.cells 181)).alloc (.cells z8 181)).alloc (.cells (u32c 64 []) 242)) = W := ⟨_, rfl⟩
  obtain ⟨e1, e2, e3, hbW, hsW⟩ := three_new' W hW
  have HM0 := Lib.hid (CpMem.mk e1 e2 e3 hbW (Nat.le_of_eq hsW.symm))
  have HC := Lib.hid hc
  have HB := Lib.hid hb
  have HMM := Lib.hid hm
  have h3 : 3 < w.heap.size := by
    rcases Nat.lt_or_ge 3 w.heap.size with h1 | h1
    · exact h1
    · rw [Array.getElem?_eq_none h1] at hg3; cases hg3
  have HG3 := Lib.hid (show ∀ W, Below w.heap.size w W → W.heap[3]? = some (.cells (u32c 64 Ks) 242 (0, 0)) from fun W hb => (hb.block _ h3).trans hg3)
  have HKs := Lib.hid hKs
  obtain ⟨T, hT⟩ : ∃ T : TypeId, 242 = T := ⟨_, rfl⟩
  obtain ⟨N, hN⟩ : ∃ N : Nat, 64 = N := ⟨_, rfl⟩
  have LD : ∀ x, Op.load 242 x = Op.load T x := fun x => by rw [hT]
  have hAgg : ∀ w, Sem.run Tryz.prog (isAgg T) w = .ok true w := fun w => by rw [← hT]; exact Tryz.isAgg242 w
  have hSz : ∀ w, Sem.run Tryz.prog (sizeOf T) w = .ok N w := fun w => by rw [← hT, ← hN]; exact Tryz.sizeOf242 w
  have HK := Lib.hid (show ∀ W : World, W.heap[3]? = some (.cells (u32c 64 Ks) 242 (0, 0)) → Sem.run Tryz.prog (loadCellsFrom ⟨3, 0, none⟩ 0 N #[]) W = .ok (u32c 64 Ks) W from fun W h => ld_row hN.symm h (by rw [u32c_size (Nat.le_of_eq hKs)]))
  clear e1 e2 e3 hbW hsW hb hm hc hhcs hT hN hKs hg3 h3
  go_enter Tryz.func93, Tryz.ntmps93
  simp only [LD]
  clear LD
  go_upto_region 2 with fail
  change Code.wp _ _ _ _ (((w.alloc (.cells v0.cells 181)).alloc (.cells z8 181)).alloc (.cells (u32c 64 []) 242))
  rw [hW]
  clear hW
  go_wp2_with fail
  go_loopg [15] 64 (fun g s15 wr => ∃ (k : Nat), k + g = 64 ∧ s15 = .int .i64 k ∧ Hid (CpMem w wr v0.cells (u32c 64 (wl m k))))
  case atStart => exact ⟨0, rfl, rfl, HM0⟩
  case round =>
    clear HM0
    obtain ⟨k, hkg, rfl, HM⟩ := hrel
    cases gk with
    | zero =>
      obtain rfl : k = 64 := by omega
      clear hkg
      obtain ⟨h0, h1, h2, h3, h4, h5, h6, h7, hf⟩ := v8_cells HM.out.h
      obtain ⟨W2, hW2⟩ : ∃ W2, wr.alloc (.cells v0.cells 181) = W2 := ⟨_, rfl⟩
      have e2 := heap_alloc_new wr (.cells v0.cells 181)
      have b2 := Below.new (w := wr) (.cells v0.cells 181)
      rw [hW2] at e2 b2
      have s2 : W2.heap.size = wr.heap.size + 1 := by rw [← hW2]; simp
      have HM2 := Lib.hid (StMem.mk (cs := v0.cells) (HM.out.below b2) e2 HM.out.sz (by omega))
      clear e2 b2 s2
      have hrun := HK.out W2 (HG3.out W2 (HM2.out.c.bel))
      go_upto_region 11 with fail
      change Code.wp _ _ _ _ (wr.alloc (.cells v0.cells 181))
      rw [hW2]
      clear hW2 h0 h1 h2 h3 h4 h5 h6 h7 hf
      go_wp2_with fail
      obtain ⟨VB, hVB⟩ : ∃ VB, wr.heap.size = VB := ⟨_, rfl⟩
      rw [hVB] at HM2 ⊢
      clear hVB hrun
      go_loopg [66] 64 (fun g s66 wq => ∃ (k : Nat), k + g = 64 ∧ s66 = .int .i64 k ∧ Hid (StMem w wq v0.cells (u32c 64 (wl m 64)) VB (rnds Ks (wl m 64) v0 k).cells))
      case atStart => exact ⟨0, rfl, rfl, HM2⟩
      case round =>
        clear HM2
        obtain ⟨k, hkg, rfl, HS⟩ := hrel
        cases gk with
        | zero =>
          obtain rfl : k = 64 := by omega
          clear hkg
          obtain ⟨V, hV⟩ : ∃ V, rnds Ks (wl m 64) v0 64 = V := ⟨_, rfl⟩
          rw [hV] at HS
          have HVV := Lib.hid hV
          clear hV
          go_wp2_with fail
          go_loopg [139] 8 (fun g s139 wq => ∃ (i : Nat), i + g = 8 ∧ s139 = .int .i64 i ∧ Hid (StMem w wq v0.cells (u32c 64 (wl m 64)) VB (mixC V v0 i)))
          case atStart => exact ⟨0, rfl, rfl, HS⟩
          case round =>
            clear HS
            obtain ⟨i, hig, rfl, HS⟩ := hrel
            cases gk with
            | zero =>
              obtain rfl : i = 8 := by omega
              clear hig
              obtain ⟨y0, y1, y2, y3, y4, y5, y6, y7, yf⟩ := v8_cells (v := V.add v0) HS.out.v
              obtain ⟨z0, z1, z2, z3, z4, z5, z6, z7, zf⟩ := v8_cells (v := ⟨0, 0, 0, 0, 0, 0, 0, 0⟩) HS.out.c.r
              have HB0 := Lib.hid HS.out.c.bel
              have HR := Lib.hid HS.out.c.r
              have HE := Lib.hid (show compressV Ks v0 m = V.add v0 by rw [compressV, HVV.out])
              go_wp2_with fail
              refine bodyPost_ret (v := .agg (V.add v0).cells) (results_row Tryz.underlying181 rfl (n := 8) (by kernel_rfl) Tryz.results93 (r := w.heap.size + 1) rfl (heap_put8 HR.out _ _ _ _ _ _ _ _) rfl) rfl ⟨by rw [HE.out], ?_⟩
              exact (((((((HB0.out.setCell (p := ⟨w.heap.size + 1, 0, none⟩) (by simp only; omega) _).setCell (p := ⟨w.heap.size + 1, 1, none⟩) (by simp only; omega) _).setCell (p := ⟨w.heap.size + 1, 2, none⟩) (by simp only; omega) _).setCell (p := ⟨w.heap.size + 1, 3, none⟩) (by simp only; omega) _).setCell (p := ⟨w.heap.size + 1, 4, none⟩) (by simp only; omega) _).setCell (p := ⟨w.heap.size + 1, 5, none⟩) (by simp only; omega) _).setCell (p := ⟨w.heap.size + 1, 6, none⟩) (by simp only; omega) _).setCell (p := ⟨w.heap.size + 1, 7, none⟩) (by simp only; omega) _
            | succ g =>
              have hi : (i : Int) < 8 := by omega
              have hin : i < 8 := by omega
              obtain ⟨y, yf⟩ := mix_cell HS.out.v hin
              have z := arr_cell (v := v0) HS.out.c.h hin
              have HG2 := Lib.hid hig
              clear hig hin
              go_upto_region 21 with fail
              go_region
              go_wp2_with fail
              go_roundg g
              case measure => omega
              case rel => exact ⟨i + 1, by have := HG2.out; omega, by go_num, Lib.hid (by rw [mixC_succ (by have := HG2.out; omega)]; exact (HS.out.set i _).below ((Below.refl _ _).drew))⟩
        | succ g =>
          --BEGINSTUB
          have hk : (k : Int) < 64 := by omega
          have hkn : k < 64 := by omega
          have HG := Lib.hid hkg
          obtain ⟨y0, y1, y2, y3, y4, y5, y6, y7, yf⟩ := v8_cells HS.out.v
          obtain ⟨V, hV⟩ : ∃ V, rnds Ks (wl m 64) v0 k = V := ⟨_, rfl⟩
          have yw := u32_cell (i := k) HS.out.c.a (by rw [wl_len]; exact hkn)
          have hix := index_k HKs.out hkn
          rw [hV] at y0 y1 y2 y3 y4 y5 y6 y7
          have HVV := Lib.hid hV
          clear hkg hkn hV
          go_upto_region 14 with fail
          go_region_held3 (fun w' => w'.cell? ⟨VB, 4, none⟩ = some (.int .u32 V.e) ∧ w'.cell? ⟨VB, 5, none⟩ = some (.int .u32 V.f) ∧ w'.cell? ⟨VB, 6, none⟩ = some (.int .u32 V.g) ∧ w'.cell? ⟨VB, 7, none⟩ = some (.int .u32 V.h) ∧ w'.cell? ⟨w.heap.size + 1 + 1, k, none⟩ = some (.int .u32 (gi (wl m 64) k))) ((go_split_ands; refine ⟨?_, ?_, ?_, ?_, ?_⟩; all_goals (repeat' (with_reducible first | assumption | refine al_cell _ ?_ | refine dr_cell ?_ | refine dr_frozen ?_ | refine dr1_cell ?_ | refine dr1_frozen ?_))))
            ((go_at_call 138; (with_reducible refine (rotr_6_11_25 _ _ _ _ ?_ ?_ ?_).mono ?_); ((with_reducible refine dr1_cell (nc' (B := _) ?_ ?_)) <;> (simp; done)); ((with_reducible refine dr1_cell (nc' (B := _) ?_ ?_)) <;> (simp; done)); ((with_reducible refine dr1_cell (nc' (B := _) ?_ ?_)) <;> (simp; done)); rintro e w' ⟨rfl, rfl⟩))
          go_upto_region 15 with fail
          obtain ⟨tt, htt⟩ : ∃ tt, IntKind.u32.wrap (IntKind.u32.wrap (IntKind.u32.wrap (IntKind.u32.wrap (V.h + rots V.e [6, 11, 25]) + bits BinOp.xor IntKind.u32 (bits BinOp.and IntKind.u32 V.e V.f) (bits BinOp.and IntKind.u32 (bits BinOp.xor IntKind.u32 IntKind.u32.max V.e) V.g)) + gi Ks k) + gi (wl m 64) k) = tt := ⟨_, rfl⟩
          rw [htt]
          have HTT := Lib.hid (show V.t (gi Ks k) (gi (wl m 64) k) = tt from htt)
          clear htt
          obtain ⟨W3, hW3⟩ : ∃ W3, (wr.alloc (.cells #[.int .i64 6, .int .i64 11, .int .i64 25] 3)).drew = W3 := ⟨_, rfl⟩
          rw [hW3]
          have hb3 : Below wr.heap.size wr W3 := by rw [← hW3]; exact (Below.new _).drew
          have HS3 := Lib.hid (HS.out.below hb3)
          clear hW3 hb3 y0 y1 y2 y3 y4 y5 y6 y7 yf yw hix
          obtain ⟨y0, y1, y2, y3, y4, y5, y6, y7, yf⟩ := v8_cells HS3.out.v
          have hV := HVV.out
          rw [hV] at y0 y1 y2 y3 y4 y5 y6 y7
          clear hV
          go_region_held3 (fun w' => w'.cell? ⟨VB, 0, none⟩ = some (.int .u32 V.a) ∧ w'.cell? ⟨VB, 1, none⟩ = some (.int .u32 V.b) ∧ w'.cell? ⟨VB, 2, none⟩ = some (.int .u32 V.c)) ((go_split_ands; refine ⟨?_, ?_, ?_⟩; all_goals (repeat' (with_reducible first | assumption | refine al_cell _ ?_ | refine dr_cell ?_ | refine dr_frozen ?_ | refine dr1_cell ?_ | refine dr1_frozen ?_))))
            ((go_at_call 138; (with_reducible refine (rotr_2_13_22 _ _ _ _ ?_ ?_ ?_).mono ?_); ((with_reducible refine dr1_cell (nc' (B := _) ?_ ?_)) <;> (simp; done)); ((with_reducible refine dr1_cell (nc' (B := _) ?_ ?_)) <;> (simp; done)); ((with_reducible refine dr1_cell (nc' (B := _) ?_ ?_)) <;> (simp; done)); rintro e w' ⟨rfl, rfl⟩))
          go_upto_region 16 with fail
          obtain ⟨uu, huu⟩ : ∃ uu, IntKind.u32.wrap (rots V.a [2, 13, 22] + bits BinOp.xor IntKind.u32 (bits BinOp.xor IntKind.u32 (bits BinOp.and IntKind.u32 V.a V.b) (bits BinOp.and IntKind.u32 V.a V.c)) (bits BinOp.and IntKind.u32 V.b V.c)) = uu := ⟨_, rfl⟩
          rw [huu]
          have HUU := Lib.hid (show V.u = uu from huu)
          clear huu
          obtain ⟨W4, hW4⟩ : ∃ W4, (W3.alloc (.cells #[.int .i64 2, .int .i64 13, .int .i64 22] 3)).drew = W4 := ⟨_, rfl⟩
          rw [hW4]
          have hb4 : Below W3.heap.size W3 W4 := by rw [← hW4]; exact (Below.new _).drew
          have HS4 := Lib.hid (HS3.out.below hb4)
          clear hW4 hb4 y0 y1 y2 y3 y4 y5 y6 y7 yf
          obtain ⟨y0, y1, y2, y3, y4, y5, y6, y7, yf⟩ := v8_cells HS4.out.v
          have hV := HVV.out
          rw [hV] at y0 y1 y2 y3 y4 y5 y6 y7
          clear hV
          go_wp2_with fail
          have HS5 := HS4.out
          rw [HVV.out] at HS5
          have HS5 := Lib.hid HS5
          go_roundg g
          case measure => omega
          case rel =>
            refine ⟨k + 1, by have := HG.out; omega, by go_num, Lib.hid ?_⟩
            rw [rnds, HVV.out]
            have e : (V.next (gi Ks k) (gi (wl m 64) k)).cells = #[.int .u32 ((tt + uu) % 4294967296), .int .u32 V.a, .int .u32 V.b, .int .u32 V.c, .int .u32 ((V.d + tt) % 4294967296), .int .u32 V.e, .int .u32 V.f, .int .u32 V.g] := by
              simp only [V8.next, V8.cells, HTT.out, HUU.out, add32, IntKind.wrap_u32]
            rw [e]
            exact StMem.put (x0 := .int .u32 V.a) (x1 := .int .u32 V.b) (x2 := .int .u32 V.c) (x3 := .int .u32 V.d) (x4 := .int .u32 V.e) (x5 := .int .u32 V.f) (x6 := .int .u32 V.g) (x7 := .int .u32 V.h) HS5.out _ _ _ _ _ _ _ _
          --ENDSTUB
    | succ g =>
      --BEGINSTUB
      have hk : (k : Int) < 64 := by omega
      have hkn : k < 64 := by omega
      have HL := Lib.hid (wl_len m k)
      have HG := Lib.hid hkg
      obtain ⟨hroom, hfr⟩ := u32_room HM.out.a (by rw [HL.out]; omega : (wl m k).length ≤ 64) hkn
      clear hkg
      obtain ⟨v9, hv9⟩ := hroom
      by_cases h16 : k < 16
      · have h16' : (k : Int) < 16 := by omega
        have hcc : 4 * (k : Int) + 4 ≤ (c : Int) := by have := HC.out; omega
        have hb := HB.out
        have HX := Lib.hid (show ∀ j, j < 4 → wr.cell? ⟨b, o + 4 * k + j, none⟩ = some (.int .u8 (nth m (4 * k + j) : Nat)) ∧ nth m (4 * k + j) < 256 from fun j hj => by
          obtain ⟨g1, g2⟩ := HMM.out (4 * k + j) (by omega)
          refine ⟨?_, g2⟩
          rw [← g1, ← Nat.add_assoc]
          exact HM.out.bel.cell (p := ⟨b, _, none⟩) hb)
        have HV := Lib.hid (show wnew m (wl m k) = ld4 (nth m (4 * k)) (nth m (4 * k + 1)) (nth m (4 * k + 2)) (nth m (4 * k + 3)) by rw [wnew, HL.out, if_pos h16])
        have HN := Lib.hid hkn
        clear h16 hkn hb
        go_wp2_with (go_at_call 137; (with_reducible refine (load_any b (o + 4 * k) _ _ _ _ _ _ (HX.out 0 (by decide)).2 (HX.out 1 (by decide)).2 (HX.out 2 (by decide)).2 (HX.out 3 (by decide)).2 (HX.out 0 (by decide)).1 (HX.out 1 (by decide)).1 (HX.out 2 (by decide)).1 (HX.out 3 (by decide)).1).mono ?_); rintro e w' ⟨rfl, rfl⟩)
        go_roundg g
        case measure => omega
        case rel => exact ⟨k + 1, by have := HG.out; omega, by go_num, Lib.hid (by rw [wl, HV.out]; exact HM.out.setA HL.out HN.out)⟩
      · have h16' : ¬ (k : Int) < 16 := by omega
        have HN := Lib.hid (And.intro hkn h16)
        have l15 := u32_cell (i := k - 15) HM.out.a (by rw [HL.out]; omega)
        have l2 := u32_cell (i := k - 2) HM.out.a (by rw [HL.out]; omega)
        have l16 := u32_cell (i := k - 16) HM.out.a (by rw [HL.out]; omega)
        have l7 := u32_cell (i := k - 7) HM.out.a (by rw [HL.out]; omega)
        have HV := Lib.hid (show wnew m (wl m k) = IntKind.u32.wrap (IntKind.u32.wrap (IntKind.u32.wrap (gi (wl m k) (k - 16) + bits BinOp.xor IntKind.u32 (rots (gi (wl m k) (k - 15)) [7, 18]) (gi (wl m k) (k - 15) / 8)) + gi (wl m k) (k - 7)) + bits BinOp.xor IntKind.u32 (rots (gi (wl m k) (k - 2)) [17, 19]) (gi (wl m k) (k - 2) / 1024)) by rw [wnew, HL.out, if_neg h16]; rfl)
        clear h16 hkn
        go_upto_region 7 with fail
        go_quiet (fail)
        go_upto_region 8 with fail
        obtain ⟨hN1, hN2⟩ := HN.out
        have r1 : IntKind.i64.wrap ((k : Int) - 16) = (k : Int) - 16 := IntWalk.i64_in _ (by omega)
        have r2 : IntKind.i64.wrap ((k : Int) - 7) = (k : Int) - 7 := IntWalk.i64_in _ (by omega)
        have r3 : (0 : Int) ≤ (k : Int) - 16 := by omega
        have r4 : (0 : Int) ≤ (k : Int) - 7 := by omega
        have r5 : (k : Int) - 16 < 64 := by omega
        have r6 : (k : Int) - 7 < 64 := by omega
        have r7 : ((k : Int) - 16).toNat = k - 16 := by omega
        have r8 : ((k : Int) - 7).toNat = k - 7 := by omega
        have r9 : (16 : Int) ≤ (k : Int) := by omega
        have ra : (7 : Int) ≤ (k : Int) := by omega
        have rb : (k : Int) < 80 := by omega
        have rc : (k : Int) < 71 := by omega
        have rd := World.new_ne wr ⟨w.heap.size + 1 + 1, k, none⟩ hv9
        have hfk := hfr k
        have n16 : k - 16 ≠ k := by omega
        have n7 : k - 7 ≠ k := by omega
        have ca : ∀ A B : Obj, (((wr.drewN (nq + 1)).alloc A).alloc B).cell? ⟨w.heap.size + 1 + 1, k, none⟩ = some v9 := fun A B => al_cell _ (al_cell _ (dr_cell hv9))
        have cb : ∀ A B : Obj, (((wr.drewN (nq + 1)).alloc A).alloc B).frozen? ⟨w.heap.size + 1 + 1, k, none⟩ = false := fun A B => al_frozen _ (al_cell _ (dr_cell hv9)) (al_frozen _ (dr_cell hv9) (dr_frozen hfk))
        clear hN1 hN2 hfr
        go_region_held3 (fun w' => w'.cell? ⟨w.heap.size + 1 + 1, k - 16, none⟩ = some (.int .u32 (gi (wl m k) (k - 16))) ∧ w'.cell? ⟨w.heap.size + 1 + 1, k - 7, none⟩ = some (.int .u32 (gi (wl m k) (k - 7)))) ((go_split_ands; refine ⟨?_, ?_⟩; all_goals (repeat' (with_reducible first | assumption | refine st_cell (by assumption) ?_ | refine al_cell _ ?_ | refine dr_cell ?_ | refine dr_frozen ?_ | refine dr1_cell ?_ | refine dr1_frozen ?_))))
          (first | (go_at_call 138; (with_reducible refine (rotr_7_18 _ _ _ _ ?_ ?_).mono ?_); (first | ((with_reducible refine nc' (B := _) ?_ ?_) <;> (simp; done)) | ((with_reducible refine al_cell _ (nc' (B := _) ?_ ?_)) <;> (simp; done))); (first | ((with_reducible refine nc' (B := _) ?_ ?_) <;> (simp; done)) | ((with_reducible refine al_cell _ (nc' (B := _) ?_ ?_)) <;> (simp; done))); rintro e w' ⟨rfl, rfl⟩) | (go_at_call 138; (with_reducible refine (rotr_17_19 _ _ _ _ ?_ ?_).mono ?_); (first | ((with_reducible refine nc' (B := _) ?_ ?_) <;> (simp; done)) | ((with_reducible refine al_cell _ (nc' (B := _) ?_ ?_)) <;> (simp; done))); (first | ((with_reducible refine nc' (B := _) ?_ ?_) <;> (simp; done)) | ((with_reducible refine al_cell _ (nc' (B := _) ?_ ?_)) <;> (simp; done))); rintro e w' ⟨rfl, rfl⟩))
        all_goals
          go_wp2_with fail
          go_roundg g
          case measure => omega
          case rel => exact ⟨k + 1, by have := HG.out; omega, by go_num, Lib.hid (by rw [wl, HV.out]; exact (HM.out.below (bl2 _ _ _ _)).setA HL.out HN.out.1)⟩
      --ENDSTUB
end Go.Proofs.YtdeccekeknlnoaaGreatDoor
