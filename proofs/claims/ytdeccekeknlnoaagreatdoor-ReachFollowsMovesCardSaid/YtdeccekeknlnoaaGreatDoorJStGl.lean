/- Chapter 38: what the listed variables give the walks. -/
import Derived.Test.YtdeccekeknlnoaaGreatDoorRows
import Derived.Test.YtdeccekeknlnoaaGreatDoorJLwB
import Derived.Lib.LaidTab
import Derived.LaidMore
import Derived.LaidHandle
import Derived.LaidLaws
import Derived.OpenShut
namespace Go.Proofs.YtdeccekeknlnoaaGreatDoor
open Go.ChangeShapes Go.WideShapes Go.RowKit
namespace La
theorem gEv : Tryz.prog.globalNamed "bootchain/policy.evaluators" = some 0 := by kernel_rfl
theorem tEv : (Tryz.prog.globals[0]?).map (·.type) = some 157 := by kernel_rfl
theorem cEv : Tryz.prog.cellsOf 157 = 11 := by kernel_rfl
theorem cFn : Tryz.prog.cellsOf 156 = 1 := by kernel_rfl
theorem gTab : Tryz.prog.globalNamed "internal/strconv.uint64pow10" = some 12 := by kernel_rfl
theorem tTab : (Tryz.prog.globals[12]?).map (·.type) = some 392 := by kernel_rfl
theorem gEr : Tryz.prog.globalNamed "strconv.ErrRange" = some 11 := by kernel_rfl
theorem tEr : (Tryz.prog.globals[11]?).map (·.type) = some 258 := by kernel_rfl
theorem g64 : Tryz.prog.globalNamed "math/bits.deBruijn64tab" = some 14 := by kernel_rfl
theorem gVm : Tryz.prog.globalNamed "bootchain/vm.instructions" = some 7 := by kernel_rfl
theorem tVm : (Tryz.prog.globals[7]?).map (·.type) = some 357 := by kernel_rfl
theorem cVm : Tryz.prog.cellsOf 357 = 18 := by kernel_rfl
theorem cVf : Tryz.prog.cellsOf 356 = 1 := by kernel_rfl
theorem gKs : Tryz.prog.globalNamed "bootchain/sha.constants" = some 3 := by kernel_rfl
theorem tKs : (Tryz.prog.globals[3]?).map (·.type) = some 242 := by kernel_rfl
theorem gSt : Tryz.prog.globalNamed "bootchain/sha.start" = some 1 := by kernel_rfl
theorem tSt : (Tryz.prog.globals[1]?).map (·.type) = some 181 := by kernel_rfl
end La
def laidAll : List (String × DataW Unit) := Rows.reachFollowsMovesRow.laid
def laidPlain : List (String × DataW Unit) := [("math/bits.deBruijn32tab", Rows.laid_math_bits_deBruijn32tab), ("math/bits.deBruijn64tab", Rows.laid_math_bits_deBruijn64tab), ("internal/strconv.uint64pow10", Rows.laid_internal_strconv_uint64pow10), ("unicode/utf8.acceptRanges", Rows.laid_unicode_utf8_acceptRanges), ("bootchain/compile.ops", Rows.laid_bootchain_compile_ops), ("strconv.ErrRange", Rows.laid_strconv_ErrRange), ("strconv.ErrSyntax", Rows.laid_strconv_ErrSyntax), ("bootchain/sha.constants", Rows.laid_bootchain_sha_constants), ("bootchain/sha.start", Rows.laid_bootchain_sha_start), ("bootchain/parse.keywords", Rows.laid_bootchain_parse_keywords), ("unicode/utf8.first", Rows.laid_unicode_utf8_first)]
theorem laid_plain {W : World} (h : laidMetH Tryz.prog laidAll W) : laidMet Tryz.prog laidPlain W := by
  unfold laidMetH at h
  have e1 : (laidAll.filter fun x => x.2.handleName?.isSome) = [("bootchain/vm.instructions", Rows.laid_bootchain_vm_instructions), ("bootchain/policy.evaluators", Rows.laid_bootchain_policy_evaluators)] := by kernel_rfl
  have e2 : (laidAll.filter fun x => x.2.handleName?.isNone) = laidPlain := by kernel_rfl
  rw [e1, e2] at h
  exact h.1
def evNames : List (List UInt8) := (List.range 10).map fun k => "bootchain/policy.evaluators$".toUTF8.data.toList ++ (if k = 9 then [49, 48] else [UInt8.ofNat (49 + k)])
theorem ev_out : (DataW.funcsOut (match (Rows.laid_bootchain_policy_evaluators : DataW Unit) with | .iface _ d => d | d => d)) = (.agg (.nil :: evNames.map .held) : DataW (List UInt8)) := by kernel_rfl
theorem ev_mem : ("bootchain/policy.evaluators", (DataW.iface "func table" (match (Rows.laid_bootchain_policy_evaluators : DataW Unit) with | .iface _ d => d | d => d) : DataW Unit)) ∈ laidAll := List.mem_of_getElem? (i := 11) rfl
theorem ev_cells {W : World} (h : laidMetH Tryz.prog laidAll W) : ∀ (k f : Nat), evalFns[k]? = some f → W.cell? ⟨0, k + 1, none⟩ = some (.func (.func f) #[] #[]) := by
  obtain ⟨g, t, cs, fuel, p, hg, ht, hv, hd⟩ := h.funcs ev_mem
  obtain rfl := Option.some.inj (La.gEv.symm.trans hg)
  obtain rfl := Option.some.inj (La.tEv.symm.trans ht)
  rw [ev_out] at hd
  obtain ⟨xs, m, rfl, hx1, hlen, hn, hel⟩ := DataW.trod_array Tryz.underlying157 hd
  simp only [Prod.mk.injEq, DataW.agg.injEq] at hx1
  rw [La.cEv] at hlen
  rw [La.cFn] at hel
  have hcell := fun i => World.var?_cell hg hv i
  have step : ∀ (k f : Nat) {b : UInt8} {r : List UInt8}, k < 10 → evNames[k]? = some (b :: r) → ((List.range Tryz.prog.funcs.size).filter fun f => (Tryz.prog.funcs[f]?).any (·.name.toUTF8.data.toList == b :: r)) = [f] → W.cell? ⟨0, k + 1, none⟩ = some (.func (.func f) #[] #[]) := by
    intro k f b r hk hname hone
    have hx : (xs.map (·.1))[k + 1]? = some (.held (b :: r)) := by rw [← hx1.1]; simp [hname]
    rw [List.getElem?_map] at hx
    obtain ⟨⟨d, q⟩, hxs, hdd⟩ := Option.map_eq_some_iff.1 hx
    simp only at hdd
    subst hdd
    have he := hel (k + 1) (by omega)
    rw [hxs, Nat.mul_one] at he
    have hc : k + 1 < cs.toList.length := by omega
    have ht1 : (cs.toList.drop (k + 1)).take 1 = [cs.toList[k + 1]] := by
      rw [List.drop_eq_getElem_cons hc]; rfl
    rw [ht1] at he
    have hv := func_of_trod Tryz.underlying156 hone he
    have := hcell (k + 1)
    rw [this, ← hv]
    simp
  intro k f hf
  match k, hf with
  | 0, hf =>
    simp only [evalFns, List.getElem?_cons_zero, Option.some.injEq] at hf
    subst hf
    exact step 0 _ (b := 98) (r := [111, 111, 116, 99, 104, 97, 105, 110, 47, 112, 111, 108, 105, 99, 121, 46, 101, 118, 97, 108, 117, 97, 116, 111, 114, 115, 36, 49]) (by decide) rfl (by kernel_rfl)
  | 1, hf =>
    simp only [evalFns, List.getElem?_cons_zero, List.getElem?_cons_succ, Option.some.injEq] at hf
    subst hf
    exact step 1 _ (b := 98) (r := [111, 111, 116, 99, 104, 97, 105, 110, 47, 112, 111, 108, 105, 99, 121, 46, 101, 118, 97, 108, 117, 97, 116, 111, 114, 115, 36, 50]) (by decide) rfl (by kernel_rfl)
  | 2, hf =>
    simp only [evalFns, List.getElem?_cons_zero, List.getElem?_cons_succ, Option.some.injEq] at hf
    subst hf
    exact step 2 _ (b := 98) (r := [111, 111, 116, 99, 104, 97, 105, 110, 47, 112, 111, 108, 105, 99, 121, 46, 101, 118, 97, 108, 117, 97, 116, 111, 114, 115, 36, 51]) (by decide) rfl (by kernel_rfl)
  | 3, hf =>
    simp only [evalFns, List.getElem?_cons_zero, List.getElem?_cons_succ, Option.some.injEq] at hf
    subst hf
    exact step 3 _ (b := 98) (r := [111, 111, 116, 99, 104, 97, 105, 110, 47, 112, 111, 108, 105, 99, 121, 46, 101, 118, 97, 108, 117, 97, 116, 111, 114, 115, 36, 52]) (by decide) rfl (by kernel_rfl)
  | 4, hf =>
    simp only [evalFns, List.getElem?_cons_zero, List.getElem?_cons_succ, Option.some.injEq] at hf
    subst hf
    exact step 4 _ (b := 98) (r := [111, 111, 116, 99, 104, 97, 105, 110, 47, 112, 111, 108, 105, 99, 121, 46, 101, 118, 97, 108, 117, 97, 116, 111, 114, 115, 36, 53]) (by decide) rfl (by kernel_rfl)
  | 5, hf =>
    simp only [evalFns, List.getElem?_cons_zero, List.getElem?_cons_succ, Option.some.injEq] at hf
    subst hf
    exact step 5 _ (b := 98) (r := [111, 111, 116, 99, 104, 97, 105, 110, 47, 112, 111, 108, 105, 99, 121, 46, 101, 118, 97, 108, 117, 97, 116, 111, 114, 115, 36, 54]) (by decide) rfl (by kernel_rfl)
  | 6, hf =>
    simp only [evalFns, List.getElem?_cons_zero, List.getElem?_cons_succ, Option.some.injEq] at hf
    subst hf
    exact step 6 _ (b := 98) (r := [111, 111, 116, 99, 104, 97, 105, 110, 47, 112, 111, 108, 105, 99, 121, 46, 101, 118, 97, 108, 117, 97, 116, 111, 114, 115, 36, 55]) (by decide) rfl (by kernel_rfl)
  | 7, hf =>
    simp only [evalFns, List.getElem?_cons_zero, List.getElem?_cons_succ, Option.some.injEq] at hf
    subst hf
    exact step 7 _ (b := 98) (r := [111, 111, 116, 99, 104, 97, 105, 110, 47, 112, 111, 108, 105, 99, 121, 46, 101, 118, 97, 108, 117, 97, 116, 111, 114, 115, 36, 56]) (by decide) rfl (by kernel_rfl)
  | 8, hf =>
    simp only [evalFns, List.getElem?_cons_zero, List.getElem?_cons_succ, Option.some.injEq] at hf
    subst hf
    exact step 8 _ (b := 98) (r := [111, 111, 116, 99, 104, 97, 105, 110, 47, 112, 111, 108, 105, 99, 121, 46, 101, 118, 97, 108, 117, 97, 116, 111, 114, 115, 36, 57]) (by decide) rfl (by kernel_rfl)
  | 9, hf =>
    simp only [evalFns, List.getElem?_cons_zero, List.getElem?_cons_succ, Option.some.injEq] at hf
    subst hf
    exact step 9 _ (b := 98) (r := [111, 111, 116, 99, 104, 97, 105, 110, 47, 112, 111, 108, 105, 99, 121, 46, 101, 118, 97, 108, 117, 97, 116, 111, 114, 115, 36, 49, 48]) (by decide) rfl (by kernel_rfl)
  | k + 10, hf => simp [evalFns] at hf
def vmNames : List (List UInt8) := [[40, 42, 98, 111, 111, 116, 99, 104, 97, 105, 110, 47, 118, 109, 46, 109, 97, 99, 104, 105, 110, 101, 41, 46, 99, 111, 110, 115, 116, 97, 110, 116], [40, 42, 98, 111, 111, 116, 99, 104, 97, 105, 110, 47, 118, 109, 46, 109, 97, 99, 104, 105, 110, 101, 41, 46, 108, 111, 97, 100], [40, 42, 98, 111, 111, 116, 99, 104, 97, 105, 110, 47, 118, 109, 46, 109, 97, 99, 104, 105, 110, 101, 41, 46, 115, 116, 111, 114, 101], [40, 42, 98, 111, 111, 116, 99, 104, 97, 105, 110, 47, 118, 109, 46, 109, 97, 99, 104, 105, 110, 101, 41, 46, 98, 105, 110, 97, 114, 121], [40, 42, 98, 111, 111, 116, 99, 104, 97, 105, 110, 47, 118, 109, 46, 109, 97, 99, 104, 105, 110, 101, 41, 46, 98, 105, 110, 97, 114, 121], [40, 42, 98, 111, 111, 116, 99, 104, 97, 105, 110, 47, 118, 109, 46, 109, 97, 99, 104, 105, 110, 101, 41, 46, 98, 105, 110, 97, 114, 121], [40, 42, 98, 111, 111, 116, 99, 104, 97, 105, 110, 47, 118, 109, 46, 109, 97, 99, 104, 105, 110, 101, 41, 46, 98, 105, 110, 97, 114, 121], [40, 42, 98, 111, 111, 116, 99, 104, 97, 105, 110, 47, 118, 109, 46, 109, 97, 99, 104, 105, 110, 101, 41, 46, 98, 105, 110, 97, 114, 121], [40, 42, 98, 111, 111, 116, 99, 104, 97, 105, 110, 47, 118, 109, 46, 109, 97, 99, 104, 105, 110, 101, 41, 46, 98, 105, 110, 97, 114, 121], [40, 42, 98, 111, 111, 116, 99, 104, 97, 105, 110, 47, 118, 109, 46, 109, 97, 99, 104, 105, 110, 101, 41, 46, 98, 105, 110, 97, 114, 121], [40, 42, 98, 111, 111, 116, 99, 104, 97, 105, 110, 47, 118, 109, 46, 109, 97, 99, 104, 105, 110, 101, 41, 46, 110, 111, 116], [40, 42, 98, 111, 111, 116, 99, 104, 97, 105, 110, 47, 118, 109, 46, 109, 97, 99, 104, 105, 110, 101, 41, 46, 98, 114, 97, 110, 99, 104], [40, 42, 98, 111, 111, 116, 99, 104, 97, 105, 110, 47, 118, 109, 46, 109, 97, 99, 104, 105, 110, 101, 41, 46, 106, 117, 109, 112], [40, 42, 98, 111, 111, 116, 99, 104, 97, 105, 110, 47, 118, 109, 46, 109, 97, 99, 104, 105, 110, 101, 41, 46, 110, 111, 116, 101], [40, 42, 98, 111, 111, 116, 99, 104, 97, 105, 110, 47, 118, 109, 46, 109, 97, 99, 104, 105, 110, 101, 41, 46, 101, 110, 100], [40, 42, 98, 111, 111, 116, 99, 104, 97, 105, 110, 47, 118, 109, 46, 109, 97, 99, 104, 105, 110, 101, 41, 46, 101, 110, 100], [40, 42, 98, 111, 111, 116, 99, 104, 97, 105, 110, 47, 118, 109, 46, 109, 97, 99, 104, 105, 110, 101, 41, 46, 108, 111, 111, 112]]
theorem vm_out : (DataW.funcsOut (match (Rows.laid_bootchain_vm_instructions : DataW Unit) with | .iface _ d => d | d => d)) = (.agg (.nil :: vmNames.map .held) : DataW (List UInt8)) := by kernel_rfl
theorem vm_mem : ("bootchain/vm.instructions", (DataW.iface "func table" (match (Rows.laid_bootchain_vm_instructions : DataW Unit) with | .iface _ d => d | d => d) : DataW Unit)) ∈ laidAll := List.mem_of_getElem? (i := 5) rfl
theorem vm_cell {W : World} (h : laidMetH Tryz.prog laidAll W) : W.cell? ⟨7, 16, none⟩ = some (.func (.func 320) #[] #[]) := by
  obtain ⟨g, t, cs, fuel, p, hg, ht, hv, hd⟩ := h.funcs vm_mem
  obtain rfl := Option.some.inj (La.gVm.symm.trans hg)
  obtain rfl := Option.some.inj (La.tVm.symm.trans ht)
  rw [vm_out] at hd
  obtain ⟨xs, m, rfl, hx1, hlen, hn, hel⟩ := DataW.trod_array Tryz.underlying357 hd
  simp only [Prod.mk.injEq, DataW.agg.injEq] at hx1
  rw [La.cVm] at hlen
  rw [La.cVf] at hel
  have hcell := fun i => World.var?_cell hg hv i
  have hx : (xs.map (·.1))[16]? = some (.held [40, 42, 98, 111, 111, 116, 99, 104, 97, 105, 110, 47, 118, 109, 46, 109, 97, 99, 104, 105, 110, 101, 41, 46, 101, 110, 100]) := by rw [← hx1.1]; rfl
  rw [List.getElem?_map] at hx
  obtain ⟨⟨d, q⟩, hxs, hdd⟩ := Option.map_eq_some_iff.1 hx
  simp only at hdd
  subst hdd
  have he := hel 16 (by omega)
  rw [hxs, Nat.mul_one] at he
  have hc : 16 < cs.toList.length := by omega
  have ht1 : (cs.toList.drop 16).take 1 = [cs.toList[16]] := by
    rw [List.drop_eq_getElem_cons hc]; rfl
  rw [ht1] at he
  have hv := func_of_trod Tryz.underlying356 (show ((List.range Tryz.prog.funcs.size).filter fun f => (Tryz.prog.funcs[f]?).any (·.name.toUTF8.data.toList == [40, 42, 98, 111, 111, 116, 99, 104, 97, 105, 110, 47, 118, 109, 46, 109, 97, 99, 104, 105, 110, 101, 41, 46, 101, 110, 100])) = [320] by kernel_rfl) he
  have := hcell 16
  rw [this, ← hv]
  simp
theorem gl_of_laid {W : World} (h : laidMetH Tryz.prog laidAll W) : Gl W := by
  have hev := ev_cells h
  obtain ⟨ps, ⟨g0, t0, cs0, f0, p0, q0, hg0, ht0, hv0, hd0, ⟨g1, t1, cs1, f1, p1, q1, hg1, ht1, hv1, hd1, ⟨g2, t2, cs2, f2, p2, q2, hg2, ht2, hv2, hd2, ⟨g3, t3, cs3, f3, p3, q3, hg3, ht3, hv3, hd3, ⟨g4, t4, cs4, f4, p4, q4, hg4, ht4, hv4, hd4, ⟨g5, t5, cs5, f5, p5, q5, hg5, ht5, hv5, hd5, -⟩, -⟩, -⟩, -⟩, -⟩, -⟩, -⟩ := laid_plain h
  refine ⟨?_, ?_, hev, ?_⟩
  · obtain rfl := Option.some.inj (La.gTab.symm.trans hg2)
    obtain rfl := Option.some.inj (La.tTab.symm.trans ht2)
    have e : (Rows.laid_internal_strconv_uint64pow10 : DataW Unit) = Lib.tabData .u64 Lib.pow10Tab := by kernel_rfl
    rw [e] at hd2
    have hc := Lib.cells_of_tab Tryz.underlying392 Tryz.underlying177 (by kernel_rfl) (by kernel_rfl) hd2
    unfold Lib.TabIs
    rw [hv2, ← hc]
  · obtain rfl := Option.some.inj (La.gEr.symm.trans hg5)
    obtain rfl := Option.some.inj (La.tEr.symm.trans ht5)
    obtain ⟨fu, u, v, hcs, -⟩ := iface_of_trod Tryz.underlying258 hd5
    have := World.var?_cell La.gEr hv5 0
    rw [Array.eq_one_of_toList hcs] at this
    exact ⟨_, by simpa using this, .inr ⟨u, v, rfl⟩⟩
  · obtain rfl := Option.some.inj (La.g64.symm.trans hg1)
    have : W.heap[14]? ≠ none := by
      intro e
      unfold World.var? at hv1
      rw [La.g64] at hv1
      simp [e] at hv1
    rcases Nat.lt_or_ge 14 W.heap.size with hh | hh
    · exact hh
    · exact absurd (Array.getElem?_eq_none hh) this
def shaKs : List Int := [1116352408, 1899447441, 3049323471, 3921009573, 961987163, 1508970993, 2453635748, 2870763221, 3624381080, 310598401, 607225278, 1426881987, 1925078388, 2162078206, 2614888103, 3248222580, 3835390401, 4022224774, 264347078, 604807628, 770255983, 1249150122, 1555081692, 1996064986, 2554220882, 2821834349, 2952996808, 3210313671, 3336571891, 3584528711, 113926993, 338241895, 666307205, 773529912, 1294757372, 1396182291, 1695183700, 1986661051, 2177026350, 2456956037, 2730485921, 2820302411, 3259730800, 3345764771, 3516065817, 3600352804, 4094571909, 275423344, 430227734, 506948616, 659060556, 883997877, 958139571, 1322822218, 1537002063, 1747873779, 1955562222, 2024104815, 2227730452, 2361852424, 2428436474, 2756734187, 3204031479, 3329325298]
def shaSt : V8 := ⟨1779033703, 3144134277, 1013904242, 2773480762, 1359893119, 2600822924, 528734635, 1541459225⟩
theorem block_of {W : World} (hs : W.ShapedOpen Tryz.prog) {g : Nat} {n : String} {cs z : Array Value} {t : TypeId} (hg : Tryz.prog.globalNamed n = some g) (hlt : g < Tryz.prog.globals.size) (hv : W.var? Tryz.prog n = some cs)
    (h0 : ((begin Tryz.prog (fun _ _ => 0) default).world.heap[g]?).bind Obj.row? = some (z, t)) : W.heap[g]? = some (.cells cs t (0, 0)) := by
  obtain ⟨cs', hh, -, -⟩ := hs.1 g z t hlt h0
  unfold World.var? at hv
  rw [hg] at hv
  simp only [Option.bind_some, hh, Option.some.injEq] at hv
  rw [hh, hv]
theorem sha_of_laid {W : World} (h : laidMetH Tryz.prog laidAll W) (hs : W.ShapedOpen Tryz.prog) : ShaG W shaKs shaSt := by
  have hsz := (gl_of_laid h).size
  obtain ⟨ps, ⟨g0, t0, cs0, f0, p0, q0, hg0, ht0, hv0, hd0, ⟨g1, t1, cs1, f1, p1, q1, hg1, ht1, hv1, hd1, ⟨g2, t2, cs2, f2, p2, q2, hg2, ht2, hv2, hd2, ⟨g3, t3, cs3, f3, p3, q3, hg3, ht3, hv3, hd3, ⟨g4, t4, cs4, f4, p4, q4, hg4, ht4, hv4, hd4, ⟨g5, t5, cs5, f5, p5, q5, hg5, ht5, hv5, hd5, ⟨g6, t6, cs6, f6, p6, q6, hg6, ht6, hv6, hd6, ⟨g7, t7, cs7, f7, p7, q7, hg7, ht7, hv7, hd7, ⟨g8, t8, cs8, f8, p8, q8, hg8, ht8, hv8, hd8, -⟩, -⟩, -⟩, -⟩, -⟩, -⟩, -⟩, -⟩, -⟩, -⟩ := laid_plain h
  obtain rfl := Option.some.inj (La.gKs.symm.trans hg7)
  obtain rfl := Option.some.inj (La.tKs.symm.trans ht7)
  obtain rfl := Option.some.inj (La.gSt.symm.trans hg8)
  obtain rfl := Option.some.inj (La.tSt.symm.trans ht8)
  have e7 : (Rows.laid_bootchain_sha_constants : DataW Unit) = Lib.tabData .u32 shaKs := by kernel_rfl
  have e8 : (Rows.laid_bootchain_sha_start : DataW Unit) = Lib.tabData .u32 shaSt.list := by kernel_rfl
  rw [e7] at hd7
  rw [e8] at hd8
  have hc7 := Lib.cells_of_tab Tryz.underlying242 Tryz.underlying175 (by kernel_rfl) (by kernel_rfl) hd7
  have hc8 := Lib.cells_of_tab Tryz.underlying181 Tryz.underlying175 (by kernel_rfl) (by kernel_rfl) hd8
  have k7 := block_of hs (z := u32c 64 []) (t := 242) La.gKs (of_decide_eq_true (by kernel_rfl)) hv7 (by kernel_rfl)
  have k8 := block_of hs (z := u32c 8 []) (t := 181) La.gSt (of_decide_eq_true (by kernel_rfl)) hv8 (by kernel_rfl)
  refine ⟨rfl, ?_, ?_, hsz⟩
  · rw [k7]
    congr 2
    exact Array.toList_inj.1 (by rw [hc7]; rfl)
  · rw [k8]
    congr 2
    exact Array.toList_inj.1 (by rw [hc8]; rfl)
theorem glv_of_laid {W : World} (h : laidMetH Tryz.prog laidAll W) : GlV W := ⟨vm_cell h, (gl_of_laid h).size⟩
end Go.Proofs.YtdeccekeknlnoaaGreatDoor
