/- Chapter 29, the walk: digest of the parser. | Chapter 29, the walk: atom of the parser. -/
import Derived.Test.YtdeccekeknlnoaaGreatDoorJPoLet
import Derived.Deep.LoopGhost
import Derived.Deep.RegionHeld3
import Derived.Deep.RegionWith
import Derived.Deep.CutRange
namespace Go.Proofs.YtdeccekeknlnoaaGreatDoor
open Go.RowKit
def digVals (d : List Nat) : List Value := d.map fun b => Value.int .u8 (b : Nat)
def DigSays (p : Nat) (w : World) (r : Po.R (List Nat)) (e : Ending) (w' : World) : Prop := match r with
  | some x => e = .returned (.agg (digVals x.1).toArray) ∧ Eats p w x.2 w'
  | none => Fails e ∧ Fr p none w w'
theorem digest_len {l r : List Po.Tok} {d : List Nat} : ∀ {i : Nat}, Po.digestF i l = some (d, r) → d.length = 4 * i := by
  intro i
  induction i generalizing l d r with
  | zero => intro h; simp [Po.digestF] at h; rw [h.1]; rfl
  | succ i ih =>
    intro h
    simp only [Po.digestF, Option.bind_eq_some_iff, Option.map_eq_some_iff] at h
    obtain ⟨x, _, w, hw, ⟨y, r'⟩, hy, he⟩ := h
    simp only [Prod.mk.injEq] at he
    rw [← he.1, List.length_append, ih hy, (Po.word4_ok hw).1]
    omega
theorem sixteen {d : List Nat} (hd : d.length = 4 * 4) : ∃ a0 a1 a2 a3 a4 a5 a6 a7 a8 a9 b0 b1 b2 b3 b4 b5, d = [a0, a1, a2, a3, a4, a5, a6, a7, a8, a9, b0, b1, b2, b3, b4, b5] := by
  match d, hd with
  | [a0, a1, a2, a3, a4, a5, a6, a7, a8, a9, b0, b1, b2, b3, b4, b5], _ => exact ⟨_, _, _, _, _, _, _, _, _, _, _, _, _, _, _, _, rfl⟩
/-- what a cell holds, unnamed -/
def zc (W : World) (a : Addr) : Value := (W.cell? a).getD undef
theorem zc_of {W : World} {a : Addr} {v : Value} (h : W.cell? a = some v) : W.cell? a = some (zc W a) := by rw [zc, h]; rfl
theorem zc_set {W W' : World} {a : Addr} {u v : Value} (h : W.cell? a = some u) (hW : W'.heap = (W.setCell a v).heap) (ha : a.spot = none) : W'.cell? a = some (zc W' a) := by
  obtain ⟨b, o, sp⟩ := a
  simp only at ha
  subst ha
  have h1 : W'.cell? ⟨b, o, none⟩ = some v := by
    simp only [World.cell?, World.setCell, hW] at h ⊢
    simp only [Array.getElem?_modify]
    cases hq : W.heap[b]? with
    | none => rw [hq] at h; simp at h
    | some ob =>
      rw [hq] at h
      cases ob with
      | cells c e f =>
        simp at h ⊢
        have hl : o < c.size := (Array.getElem?_eq_some_iff.1 h).1
        simp [hl]
      | _ => simp at h
  exact zc_of h1
theorem pa_digit_ok (b : UInt8) (n : Nat) (h : Po.hexd b = some n) (w : World) : Calls Tryz.prog 252 #[.int .u8 (b.toNat : Int)] w fun e w' => e = .returned (.int .u8 n) ∧ w' = w := by
  have := pa_digit b w
  rw [h] at this
  exact this
theorem pa_digit_no (b : UInt8) (h : Po.hexd b = none) (w : World) : Calls Tryz.prog 252 #[.int .u8 (b.toNat : Int)] w fun e w' => Fails e ∧ w' = w := by
  have := pa_digit b w
  rw [h] at this
  exact this
/-- the cells of a digest of which the first bytes are laid -/
def digCells (d : List Nat) : Array Value := ((d ++ List.replicate (16 - d.length) 0).map fun b => Value.int .u8 (b : Nat)).toArray
theorem digCells_size {d : List Nat} (h : d.length ≤ 16) : (digCells d).size = 16 := by simp [digCells]; omega
theorem digCells_snoc {d : List Nat} {b : Nat} (h : d.length < 16) : (digCells d).setIfInBounds d.length (.int .u8 (b : Nat)) = digCells (d ++ [b]) := by
  apply Array.ext_getElem?
  intro i
  rw [Array.getElem?_setIfInBounds]
  simp only [digCells, List.getElem?_toArray, List.getElem?_map, List.size_toArray, List.length_map, List.length_append, List.length_replicate]
  by_cases e : d.length = i
  · subst e
    rw [if_pos rfl, if_pos (by omega)]
    simp
  · rw [if_neg e]
    congr 1
    by_cases hi : i < d.length
    · rw [List.getElem?_append_left hi, List.getElem?_append_left (by simp; omega), List.getElem?_append_left hi]
    · rw [List.getElem?_append_right (by omega), List.getElem?_append_right (by simp; omega)]
      simp only [List.getElem?_replicate, List.length_append, List.length_singleton]
      by_cases h2 : i < 16
      · rw [if_pos (by omega), if_pos (by omega)]
      · rw [if_neg (by omega), if_neg (by omega)]
theorem dig_set {W : World} {r : Nat} {d : List Nat} {b : Nat} (h : W.heap[r]? = some (.cells (digCells d) 39 (0, 0))) (hd : d.length < 16) : (W.setCell ⟨r, d.length, none⟩ (.int .u8 (b : Nat))).heap[r]? = some (.cells (digCells (d ++ [b])) 39 (0, 0)) := by
  simp only [World.setCell, Array.getElem?_modify, h]
  simp [digCells_snoc hd]
theorem dig_cell {W : World} {r : Nat} {d : List Nat} (h : W.heap[r]? = some (.cells (digCells d) 39 (0, 0))) (hd : d.length < 16) : (∃ v, W.cell? ⟨r, d.length, none⟩ = some v) ∧ ∀ o, W.frozen? ⟨r, o, none⟩ = false := by
  constructor
  · simp only [World.cell?, h]
    exact ⟨_, by simp; exact Array.getElem?_eq_getElem (by rw [digCells_size (by omega)]; exact hd)⟩
  · intro o
    simp [World.frozen?, h]
theorem digCells_full {d : List Nat} (h : d.length = 16) : digCells d = (digVals d).toArray := by
  simp [digCells, digVals, h]
namespace Po
def byteAt (t : List UInt8) (j : Nat) : Option Nat := (hexd (t.getD (2 * j + 1) 0)).bind fun a => (hexd (t.getD (2 * j + 2) 0)).map fun b => 16 * a + b
theorem word4_not {t : List UInt8} (h : ¬ (t.length = 9 ∧ t.head? = some 120)) : word4 t = none := by
  unfold word4
  split
  · split
    · rename_i h0; exact absurd ⟨rfl, by rw [h0]; rfl⟩ h
    · rfl
  · rfl
theorem nine {t : List UInt8} (h : t.length = 9) : ∃ x a b c d e f g i, t = [x, a, b, c, d, e, f, g, i] := by
  match t, h with
  | [x, a, b, c, d, e, f, g, i], _ => exact ⟨_, _, _, _, _, _, _, _, _, rfl⟩
theorem word4_bytes {t : List UInt8} (h : t.length = 9) (h0 : t.head? = some 120) : word4 t = (byteAt t 0).bind fun a => (byteAt t 1).bind fun b => (byteAt t 2).bind fun c => (byteAt t 3).map fun d => [a, b, c, d] := by
  obtain ⟨x, a, b, c, d, e, f, g, i, rfl⟩ := nine h
  simp at h0
  subst h0
  simp only [word4, if_true, byteAt, List.getD_cons_succ, List.getD_cons_zero, Nat.mul_zero, Nat.zero_add, Nat.mul_one, Nat.reduceMul, Nat.reduceAdd]
  cases hexd a <;> cases hexd b <;> cases hexd c <;> cases hexd d <;> cases hexd e <;> cases hexd f <;> cases hexd g <;> cases hexd i <;> rfl
theorem word4_some {t : List UInt8} {d : List Nat} (h : t.length = 9) (h0 : t.head? = some 120) (hd : d.length = 4) (hb : ∀ j, j < 4 → ∃ b, d[j]? = some b ∧ byteAt t j = some b) : word4 t = some d := by
  match d, hd with
  | [a, b, c, e], _ =>
    obtain ⟨_, g0, k0⟩ := hb 0 (by omega)
    obtain ⟨_, g1, k1⟩ := hb 1 (by omega)
    obtain ⟨_, g2, k2⟩ := hb 2 (by omega)
    obtain ⟨_, g3, k3⟩ := hb 3 (by omega)
    simp at g0 g1 g2 g3
    subst g0; subst g1; subst g2; subst g3
    rw [word4_bytes h h0, k0, k1, k2, k3]
    rfl
theorem word4_none {t : List UInt8} {k : Nat} (h : t.length = 9) (h0 : t.head? = some 120) (hk : k < 4) (hb : byteAt t k = none) : word4 t = none := by
  rw [word4_bytes h h0]
  match k, hk with
  | 0, _ => rw [hb]; rfl
  | 1, _ => rw [hb]; cases byteAt t 0 <;> rfl
  | 2, _ => rw [hb]; cases byteAt t 0 <;> cases byteAt t 1 <;> rfl
  | 3, _ => rw [hb]; cases byteAt t 0 <;> cases byteAt t 1 <;> cases byteAt t 2 <;> rfl
theorem digestF_fail {g : Nat} {l : List Tok} (h : must 1 [] l = none) : digestF (g + 1) l = none := by rw [digestF, h]; rfl
theorem digestF_word {g : Nat} {l r : List Tok} {x : Tok} (h : must 1 [] l = some (x, r)) (hw : word4 x.t = none) : digestF (g + 1) l = none := by
  rw [digestF, h]
  simp only [Option.bind_some, hw]
  rfl
theorem digestF_step {g : Nat} {l r : List Tok} {x : Tok} {d : List Nat} (h : must 1 [] l = some (x, r)) (hw : word4 x.t = some d) : digestF (g + 1) l = (digestF g r).map fun y => (d ++ y.1, y.2) := by
  rw [digestF, h]
  simp only [Option.bind_some, hw]
end Po
theorem index_str {t : ByteArray} {j : Nat} (h : j < t.size) (w : World) : (Instr.index 9 (.string t) (.int .i64 j)).run Tryz.prog w = .ok (.int .u8 ((t[j]'h).toNat : Int)) w := by
  simp [Instr.index, run_underlying Tryz.underlying9, asIntOf, go_sem, h]
theorem byte_all : ∀ a : Fin 16, ∀ b : Fin 16, bits BinOp.or IntKind.u8 (IntKind.u8.wrap ((a.val : Int) * 16)) (b.val : Int) = ((16 * a.val + b.val : Nat) : Int) := by decide +kernel
theorem byte_val {a b : Nat} (ha : a < 16) (hb : b < 16) : bits BinOp.or IntKind.u8 (IntKind.u8.wrap ((a : Int) * 16)) (b : Int) = ((16 * a + b : Nat) : Int) := byte_all ⟨a, ha⟩ ⟨b, hb⟩
theorem raw_wrap (x : Int) : IntKind.i64.wrap x = wrap64 x := by
  simp [wrap64, IntKind.wrap, IntKind.bits, IntKind.signed]
  split <;> omega
theorem keep_goal {G X : Prop} (g : G) (_x : X) : G := g
theorem dig_nums {i k n j1 j2 z : Nat} (hi : i < 4) (hk : k < 4) (hn : n = 4 * i + k) (h1 : 2 * k + 1 = j1) (h2 : 2 * k + 2 = j2) (hz : z = 9) :
    wrap64 (4 * (i : Int)) = 4 * (i : Int) ∧ wrap64 (4 * (i : Int) + (k : Int)) = (n : Int) ∧ wrap64 (2 * (k : Int)) = 2 * (k : Int) ∧ wrap64 (2 * (k : Int) + 1) = (j1 : Int) ∧ wrap64 (2 * (k : Int) + 2) = (j2 : Int) ∧ wrap64 ((k : Int) + 1) = (k : Int) + 1 ∧ (0 ≤ (j1 : Int) ∧ (j1 : Int) < (z : Int)) ∧ (0 ≤ (j2 : Int) ∧ (j2 : Int) < (z : Int)) ∧ (0 ≤ (n : Int) ∧ (n : Int) < 16) ∧ (k : Int) < 4 ∧ j1 < z ∧ j2 < z ∧ n < 16 := by
  subst hn; subst h1; subst h2; subst hz
  refine ⟨?_, ?_, ?_, ?_, ?_, ?_, ?_, ?_, ?_, ?_, ?_, ?_, ?_⟩ <;> first | omega | (unfold wrap64; omega)
theorem byte_at {t : ByteArray} {xt : List UInt8} {k j1 j2 : Nat} (ht : t.data.toList = xt) (h1 : 2 * k + 1 = j1) (h2 : 2 * k + 2 = j2) (b1 : j1 < t.size) (b2 : j2 < t.size) : Po.byteAt xt k = (Po.hexd (t[j1]'b1)).bind fun a => (Po.hexd (t[j2]'b2)).map fun b => 16 * a + b := by
  subst h1; subst h2
  rw [Po.byteAt, ← ht, List.getD_eq_getElem?_getD, List.getD_eq_getElem?_getD, Po.at_byte b1, Po.at_byte b2]
  rfl
set_option maxRecDepth 1000000 in
set_option maxHeartbeats 4000000 in
theorem pa_digest {p : Nat} {l : List Po.Tok} {o : List Po.Nd} {own : Option Nat} (w : World) (h : PsAt p w l o own) :
    Calls Tryz.prog 218 #[.pointer (some ⟨p, 0, none⟩)] w (DigSays p w (Po.digestF 4 l)) := by
  have hp := h.lt
  obtain ⟨S, hS⟩ : ∃ S, DigSays p w (Po.digestF 4 l) = S := ⟨_, rfl⟩
  rw [hS]
  obtain ⟨T, N, R, K, L⟩ := letters
  have h0 := h.keep (Below.new (.cells (digCells []) 39))
  have hr : (w.alloc (.cells (digCells []) 39)).heap[w.heap.size]? = some (.cells (digCells []) 39 (0, 0)) := heap_alloc_new _ _
  have hw := Below.new (w := w) (.cells (digCells []) 39)
  have hpr : w.heap.size ≠ p := by omega
  have he0 := (Eats.refl h).alloc (.cells (digCells []) 39)
  have HPS := Lib.hid h
  clear h
  have hft := fun k n a t w => field_t k n a t w
  go_enter Tryz.func218, Tryz.ntmps218
  simp only [L.loadR, L.storeR]
  have la := L.aggR
  have lz := L.sizeR
  have HL := Lib.hid L
  clear L
  go_upto_region 1 with fail
  change Code.wp _ _ _ _ (w.alloc (.cells (digCells []) 39))
  revert h0 hr hw he0
  generalize w.alloc (.cells (digCells []) 39) = W0
  intro h0 hr hw he0
  have H0 := Lib.hid h0
  have HR := Lib.hid hr
  have HW := Lib.hid hw
  have HE0 := Lib.hid he0
  clear h0 hr hw he0
  go_wp2_with fail
  go_loopg [6] 4 (fun g s6 wr => ∃ (i : Nat) (l1 : List Po.Tok) (d : List Nat), i + g = 4 ∧ s6 = .int .i64 i ∧ Hid (Eats p w l1 wr) ∧ Hid (wr.heap[w.heap.size]? = some (.cells (digCells d) 39 (0, 0))) ∧ Hid (d.length = 4 * i ∧ Po.digestF 4 l = (Po.digestF g l1).map fun y => (d ++ y.1, y.2)))
  case atStart => exact ⟨0, l, [], rfl, rfl, HE0, HR, ⟨rfl, by simp⟩⟩
  case round =>
    clear HR HE0 HW H0
    obtain ⟨i, l1, d, hig, rfl, HE, HR, HD⟩ := hrel
    cases gk with
    | zero =>
      have hi4 : ¬ (i : Int) < 4 := by omega
      have HX := Lib.hid (show Po.digestF 4 l = some (d, l1) by rw [HD.out.2, Po.digestF]; simp)
      have hc := HR.out
      have hlen : d.length = 16 := by have := HD.out.1; omega
      go_upto_region 13 with fail
      have hT := HL.out.tyR
      subst hT
      refine wp_region_list ?_
      simp only []
      have hsz : (digCells d).size = 16 := digCells_size (by omega)
      refine wpList_load_mid rfl 39 (.tmp 2) rfl w.heap.size 0 rfl (digCells d).toList _ (range_block hc) Tryz.underlying39 rfl (by rw [show (digCells d).toList.length = 16 by simpa using hsz]; kernel_rfl) ?_
      rw [Array.toArray_toList]
      refine wpList_store_mid rfl 39 (.tmp 2) (.tmp 46) rfl w.heap.size 0 (digCells d) rfl rfl (there_block hc (Nat.le_refl _)) (by rw [hsz]; kernel_rfl) (by rw [digCells_full hlen, Array.all_eq_true_iff_forall_mem]; intro u hu; simp only [digVals, List.mem_toArray, List.mem_map] at hu; obtain ⟨b, _, rfl⟩ := hu; rfl) ?_
      have hend := put_same (cs := digCells d) hc rfl
      have heat := HE.out.below ((put_below (Below.refl _ _) (Nat.le_refl _) : Below w.heap.size wr (putRow wr w.heap.size (digCells d))))
      change wpList _ _ _ _ _ (putRow wr w.heap.size (digCells d))
      revert hend heat
      generalize putRow wr w.heap.size (digCells d) = W3
      intro hend heat
      have HEND := Lib.hid hend
      have HEAT := Lib.hid heat
      clear hend heat hc
      have hd2 : (digVals d).toArray = digCells d := (digCells_full hlen).symm
      have HD2 := Lib.hid hd2
      clear hd2
      go_wp2_with fail
      refine bodyPost_ret (v := .agg (digCells d)) (results_dig Tryz.results218 rfl HEND.out hsz) rfl ?_
      rw [← hS, HX.out]
      exact ⟨by rw [HD2.out], HEAT.out⟩
    | succ g =>
      have hi4 : (i : Int) < 4 := by omega
      cases hm : Po.must 1 [] l1 with
      | none =>
        have HM := Lib.hid hm
        have HX := Lib.hid (show Po.digestF 4 l = none by rw [HD.out.2, Po.digestF_fail hm]; rfl)
        clear hm
        go_wp2_with (go_at_call 185; refine (pa_must_no 1 ⟨#[]⟩ _ (HE.out.at_ HPS.out) HM.out).mono ?_; rintro e w9 ⟨hf, hfr⟩; unfold Fails at hf; subst hf)
        rw [← hS, HX.out]
        exact ⟨rfl, rfl, HE.out.fr.trans hfr (.refl _ _)⟩
      | some x =>
        obtain ⟨x, r1⟩ := x
        have HM := Lib.hid hm
        clear hm
        obtain ⟨t, ht⟩ : ∃ t : ByteArray, (⟨x.t.toArray⟩ : ByteArray) = t := ⟨_, rfl⟩
        have htd : t.data.toList = x.t := by rw [← ht]
        go_upto_region 5 with (go_at_call 185; refine (pa_must_ok 1 ⟨#[]⟩ _ (HE.out.at_ HPS.out) HM.out).mono ?_; rintro e w2 ⟨⟨a1, rfl⟩, he1⟩; have HR2 := Lib.hid (he1.var HR.out hpr); have HE1 := Lib.hid (HE.out.trans he1); clear he1)
        have HT := Lib.hid htd
        have htl : x.t.length = t.size := by rw [← htd]; simp
        clear htd
        by_cases h9 : t.size = 9
        · have e1 : ((t.size : Int) != 9) = false := by simp; omega
          have hz0 : 0 < t.size := by omega
          have hq0 : 0 ≤ (0 : Int) ∧ (0 : Int) < t.size := by omega
          by_cases h120 : (t[0]'hz0) = 120
          · have e2 : (((t[0]'hz0).toNat : Int) != 120) = false := by rw [h120]; rfl
            have hhead : x.t.head? = some 120 := by
              rw [← HT.out, List.head?_eq_getElem?, Po.at_byte hz0, h120]
            have HH := Lib.hid (And.intro (htl.trans h9) hhead)
            have HS9 := Lib.hid h9
            clear hhead h120 htl h9
            go_upto_region 7 with fail
            go_wp2_with fail
            go_loopg [22] 4 (fun g2 s22 wy => ∃ (k : Nat) (d2 : List Nat), k + g2 = 4 ∧ s22 = .int .i64 k ∧ Hid (Eats p w r1 wy) ∧ Hid (wy.heap[w.heap.size]? = some (.cells (digCells (d ++ d2)) 39 (0, 0))) ∧ Hid (d2.length = k ∧ ∀ j, j < k → ∃ b, d2[j]? = some b ∧ Po.byteAt x.t j = some b))
            case atStart => exact ⟨0, [], rfl, rfl, HE1, Lib.hid (by rw [List.append_nil]; exact HR2.out), Lib.hid ⟨rfl, fun j hj => absurd hj (Nat.not_lt_zero j)⟩⟩
            case round =>
              clear HE1 HR2
              obtain ⟨k, d2, hkg, rfl, HE2, HR3, HD2⟩ := hrel
              cases gk with
              | zero =>
                have hk4 : ¬ (k : Int) < 4 := by omega
                have hi1 : wrap64 ((i : Int) + 1) = (i : Int) + 1 := by unfold wrap64; omega
                have HX := Lib.hid (show Po.digestF 4 l = (Po.digestF g r1).map fun y => ((d ++ d2) ++ y.1, y.2) by
                  rw [HD.out.2, Po.digestF_step HM.out (Po.word4_some HH.out.1 HH.out.2 (HD2.out.1.trans (by omega)) (fun j hj => HD2.out.2 j (by omega))), Option.map_map]
                  congr 1
                  funext y
                  simp)
                go_wp2_with fail
                go_roundg g
                case measure => omega
                case rel => exact ⟨i + 1, r1, d ++ d2, by omega, by first | rfl | simp, HE2, HR3, ⟨by rw [List.length_append, HD2.out.1]; have := HD.out.1; omega, HX.out⟩⟩
              | succ g2 =>
                have HK4 := Lib.hid (show k < 4 by omega)
                have HI4 := Lib.hid (show i < 4 by omega)
                obtain ⟨n, hn⟩ : ∃ n, (d ++ d2).length = n := ⟨_, rfl⟩
                obtain ⟨j1, hj1e⟩ : ∃ j1, 2 * k + 1 = j1 := ⟨_, rfl⟩
                obtain ⟨j2, hj2e⟩ : ∃ j2, 2 * k + 2 = j2 := ⟨_, rfl⟩
                have hn2 : n = 4 * i + k := by rw [← hn, List.length_append, HD2.out.1, HD.out.1]
                obtain ⟨u1, u2, u3, u4, u5, u6, b1, b2, b3, hk4, l1, l2, l3⟩ := dig_nums HI4.out HK4.out hn2 hj1e hj2e HS9.out
                have v1 := (raw_wrap _).trans u1
                have v2 := (raw_wrap _).trans u2
                have v3 := (raw_wrap _).trans u3
                have v4 := (raw_wrap _).trans u4
                have v5 := (raw_wrap _).trans u5
                have b1' := b1.2
                have b2' := b2.2
                have b3' := b3.2
                have x1 := fun W => index_str l1 W
                have x2 := fun W => index_str l2 W
                have hby := Lib.hid (byte_at HT.out hj1e hj2e l1 l2)
                have hcell := dig_cell (d := d ++ d2) HR3.out (by rw [hn]; exact l3)
                rw [hn] at hcell
                obtain ⟨⟨z0, hz1⟩, hzf⟩ := hcell
                have HN := Lib.hid (And.intro hn hn2)
                clear hn hn2 hj1e hj2e
                cases hA : Po.hexd (t[j1]'l1) with
                | none =>
                  have cA := pa_digit_no _ hA
                  have HX := Lib.hid (show Po.digestF 4 l = none by
                    rw [HD.out.2, Po.digestF_word HM.out (Po.word4_none (k := k) HH.out.1 HH.out.2 HK4.out (by rw [hby.out, hA]; rfl))]
                    rfl)
                  clear hA hby hig hkg hi4 u6
                  cases hB : Po.hexd (t[j2]'l2) with
                  | none =>
                    have cB := pa_digit_no _ hB
                    clear hB
                    have hpan : ∀ a : Act, a.defers = [] → bodyPost Tryz.prog Tryz.f218 S (Exit.panic [{ v := failV, recovered := false }]) a wr.drew := fun a ha => ⟨ha, by rw [← hS, HX.out]; exact ⟨rfl, HE2.out.fr.trans (.of_below (Below.refl _ _).drew) (.refl _ _)⟩⟩
                    go_upto_region 10 with fail
                    go_region_with (first
                      | (go_at_call 252; (with_reducible refine (cA _).mono ?_); rintro e w' ⟨hf, hw⟩; unfold Fails at hf; subst hf; subst hw; refine keep_goal (X := wpAny Tryz.prog default #[] (fun _ _ _ => True) 0 #[] ⟨#[], []⟩ wr) (hpan _ rfl) ?_)
                      | (go_at_call 252; (with_reducible refine (cB _).mono ?_); rintro e w' ⟨hf, hw⟩; unfold Fails at hf; subst hf; subst hw; refine keep_goal (X := wpAny Tryz.prog default #[] (fun _ _ _ => True) 0 #[] ⟨#[], []⟩ wr) (hpan _ rfl) ?_))
                    all_goals trivial
                  | some b =>
                    have cB := pa_digit_ok _ b hB
                    clear hB
                    have hpan : ∀ a : Act, a.defers = [] → bodyPost Tryz.prog Tryz.f218 S (Exit.panic [{ v := failV, recovered := false }]) a wr.drew := fun a ha => ⟨ha, by rw [← hS, HX.out]; exact ⟨rfl, HE2.out.fr.trans (.of_below (Below.refl _ _).drew) (.refl _ _)⟩⟩
                    go_upto_region 10 with fail
                    go_region_with (first
                      | (go_at_call 252; (with_reducible refine (cA _).mono ?_); rintro e w' ⟨hf, hw⟩; unfold Fails at hf; subst hf; subst hw; refine keep_goal (X := wpAny Tryz.prog default #[] (fun _ _ _ => True) 0 #[] ⟨#[], []⟩ wr) (hpan _ rfl) ?_)
                      | (go_at_call 252; (with_reducible refine (cB _).mono ?_); rintro e w' ⟨hf, hw⟩; subst hf; subst hw))
                    all_goals trivial
                | some a =>
                  cases hB : Po.hexd (t[j2]'l2) with
                  | none =>
                    have cA := pa_digit_ok _ a hA
                    have cB := pa_digit_no _ hB
                    have HX := Lib.hid (show Po.digestF 4 l = none by
                      rw [HD.out.2, Po.digestF_word HM.out (Po.word4_none (k := k) HH.out.1 HH.out.2 HK4.out (by rw [hby.out, hA, hB]; rfl))]
                      rfl)
                    clear hA hB hby hig hkg hi4 u6
                    have hpan : ∀ a : Act, a.defers = [] → bodyPost Tryz.prog Tryz.f218 S (Exit.panic [{ v := failV, recovered := false }]) a wr.drew := fun a ha => ⟨ha, by rw [← hS, HX.out]; exact ⟨rfl, HE2.out.fr.trans (.of_below (Below.refl _ _).drew) (.refl _ _)⟩⟩
                    go_upto_region 10 with fail
                    go_region_with (first
                      | (go_at_call 252; (with_reducible refine (cA _).mono ?_); rintro e w' ⟨hf, hw⟩; subst hf; subst hw)
                      | (go_at_call 252; (with_reducible refine (cB _).mono ?_); rintro e w' ⟨hf, hw⟩; unfold Fails at hf; subst hf; subst hw; refine keep_goal (X := wpAny Tryz.prog default #[] (fun _ _ _ => True) 0 #[] ⟨#[], []⟩ wr) (hpan _ rfl) ?_))
                    all_goals trivial
                  | some b =>
                    have cA := pa_digit_ok _ a hA
                    have cB := pa_digit_ok _ b hB
                    have HV := Lib.hid (show Po.byteAt x.t k = some (16 * a + b) by rw [hby.out, hA, hB]; rfl)
                    have HAB := Lib.hid (byte_val (Po.hexd_lt hA) (Po.hexd_lt hB))
                    clear hA hB hby
                    go_upto_region 10 with fail
                    go_region_held3 (fun W' => W'.cell? ⟨w.heap.size, n, none⟩ = some (zc W' ⟨w.heap.size, n, none⟩)) (first | assumption | exact zc_of hz1 | exact zc_set hz1 rfl rfl) (first
                      | (go_at_call 252; (with_reducible refine (cA _).mono ?_); rintro e w' ⟨rfl, hw⟩; subst hw)
                      | (go_at_call 252; (with_reducible refine (cB _).mono ?_); rintro e w' ⟨rfl, hw⟩; subst hw))
                    all_goals
                      rw [HAB.out]
                      have hend := dig_set (b := 16 * a + b) HR3.out (by rw [HN.out.1]; exact l3)
                      rw [HN.out.1, List.append_assoc] at hend
                      have heat := HE2.out.below (((Below.refl _ _).setCell (p := ⟨w.heap.size, n, none⟩) (Nat.le_refl _) (.int .u8 ((16 * a + b : Nat) : Int))).drew : Below w.heap.size wr _)
                      have hend2 : (wr.setCell ⟨w.heap.size, n, none⟩ (.int .u8 ((16 * a + b : Nat) : Int))).drew.heap[w.heap.size]? = some (.cells (digCells (d ++ (d2 ++ [16 * a + b]))) 39 (0, 0)) := hend
                      clear hend hz1 hzf cA cB x1 x2 u1 u2 u3 u4 u5 v1 v2 v3 v4 v5 b1 b2 b3 b1' b2' b3'
                      revert hend2 heat
                      generalize (wr.setCell ⟨w.heap.size, n, none⟩ (.int .u8 ((16 * a + b : Nat) : Int))).drew = W5
                      intro heat hend2
                      have HEND := Lib.hid hend2
                      have HEAT := Lib.hid heat
                      clear hend2 heat
                      go_wp2_with fail
                      go_roundg g2
                      case measure => exact Nat.lt_succ_self _
                      case rel => exact ⟨k + 1, d2 ++ [16 * a + b], (Nat.add_right_comm k 1 g2).trans hkg, by first | rfl | simp, HEAT, HEND, Lib.hid ⟨by rw [List.length_append, HD2.out.1]; rfl, fun j hj => by
                        by_cases h : j < k
                        · obtain ⟨c, h1, h2⟩ := HD2.out.2 j h
                          exact ⟨c, by rw [List.getElem?_append_left (by rw [HD2.out.1]; exact h)]; exact h1, h2⟩
                        · have hjk : j = k := Nat.le_antisymm (Nat.le_of_lt_succ hj) (Nat.le_of_not_lt h)
                          subst hjk
                          exact ⟨16 * a + b, by rw [← HD2.out.1]; simp, HV.out⟩⟩⟩
          · have e2 : (((t[0]'hz0).toNat : Int) != 120) = true := by
              simp only [bne_iff_ne, ne_eq]
              intro e
              apply h120
              rw [Po.eq_iff8]
              have : (120 : UInt8).toNat = 120 := rfl
              omega
            have HX := Lib.hid (show Po.digestF 4 l = none by
              rw [HD.out.2, Po.digestF_word HM.out (Po.word4_not (fun hh => by
                have h := hh.2
                rw [← HT.out, List.head?_eq_getElem?, Po.at_byte hz0] at h
                simp at h
                exact h120 h))]
              rfl)
            clear h120 htl h9
            go_wp2_with fail
            rw [← hS, HX.out]
            exact ⟨rfl, rfl, HE1.out.fr⟩
        · have e1 : ((t.size : Int) != 9) = true := by simp; omega
          have HX := Lib.hid (show Po.digestF 4 l = none by
            rw [HD.out.2, Po.digestF_word HM.out (Po.word4_not (fun hh => h9 (htl.symm.trans hh.1)))]
            rfl)
          clear htl h9
          go_wp2_with fail
          rw [← hS, HX.out]
          exact ⟨rfl, rfl, HE1.out.fr⟩
end Go.Proofs.YtdeccekeknlnoaaGreatDoor

namespace Go.Proofs.YtdeccekeknlnoaaGreatDoor
open Go.RowKit
theorem compare_dg {a b : Nat} {l r : List Po.Tok} {x : Po.Nd} (h : Po.compare a b l = some (x, r)) : x.dg.length = 16 ∧ x.of = [] := by
  unfold Po.compare at h
  split at h
  · simp only [Option.map_eq_some_iff] at h
    obtain ⟨y, _, h⟩ := h
    simp only [Prod.mk.injEq] at h
    rw [← h.1]
    exact ⟨rfl, rfl⟩
  · simp only [Option.bind_eq_some_iff, Option.map_eq_some_iff] at h
    obtain ⟨z, _, y, _, h⟩ := h
    simp only [Prod.mk.injEq] at h
    rw [← h.1]
    exact ⟨rfl, rfl⟩
theorem str_any : Po.str "any" = [97, 110, 121] := by decide +kernel
theorem str_version : Po.str "version" = [118, 101, 114, 115, 105, 111, 110] := by decide +kernel
theorem str_epoch : Po.str "epoch" = [101, 112, 111, 99, 104] := by decide +kernel
theorem str_stage : Po.str "stage" = [115, 116, 97, 103, 101] := by decide +kernel
theorem str_point : Po.str "point" = [112, 111, 105, 110, 116] := by decide +kernel
theorem str_is : Po.str "is" = [105, 115] := by decide +kernel
theorem str_took : Po.str "took" = [116, 111, 111, 107] := by decide +kernel
theorem str_true : Po.str "true" = [116, 114, 117, 101] := by decide +kernel
theorem str_false : Po.str "false" = [102, 97, 108, 115, 101] := by decide +kernel
def atomAt (xt : List UInt8) (r : List Po.Tok) : Po.R Po.Nd :=
    if xt = [97, 110, 121] then some (⟨1, 0, 0, 0, Po.zero16, []⟩, r)
    else if xt = [118, 101, 114, 115, 105, 111, 110] then Po.compare 2 3 r
    else if xt = [101, 112, 111, 99, 104] then Po.compare 4 5 r
    else if xt = [115, 116, 97, 103, 101] then (Po.must 2 [] r).bind fun y => (Po.must 1 [105, 115] y.2).bind fun z => (Po.digestF 4 z.2).map fun d => (⟨6, y.1.n, 0, 0, d.1, []⟩, d.2)
    else if xt = [112, 111, 105, 110, 116] then (Po.must 2 [] r).bind fun y => (Po.must 2 [] y.2).bind fun z => (Po.must 1 [116, 111, 111, 107] z.2).bind fun v =>
      if Po.isT v.2 1 [116, 114, 117, 101] then some (⟨7, y.1.n, z.1.n, 1, Po.zero16, []⟩, v.2.tail)
      else (Po.must 1 [102, 97, 108, 115, 101] v.2).map fun u => (⟨7, y.1.n, z.1.n, 2, Po.zero16, []⟩, u.2)
    else none
theorem atom_eq (l : List Po.Tok) : Po.atom l = (Po.must 1 [] l).bind fun x => atomAt x.1.t x.2 := by
  unfold atomAt
  rw [← str_any, ← str_version, ← str_epoch, ← str_stage, ← str_point, ← str_is, ← str_took, ← str_true, ← str_false]
  rfl

set_option maxRecDepth 1000000 in
set_option maxHeartbeats 4000000 in
theorem pa_atom {p : Nat} {l : List Po.Tok} {o : List Po.Nd} {own : Option Nat} (w : World) (h : PsAt p w l o own) :
    Calls Tryz.prog 186 #[.pointer (some ⟨p, 0, none⟩)] w (NodeSays p w (Po.atom l)) := by
  have hp := h.lt
  rw [atom_eq]
  obtain ⟨AT, hAT⟩ : ∃ AT, ((Po.must 1 [] l).bind fun x => atomAt x.1.t x.2) = AT := ⟨_, rfl⟩
  rw [hAT]
  obtain ⟨S, hS⟩ : ∃ S, NodeSays p w AT = S := ⟨_, rfl⟩
  rw [hS]
  obtain ⟨T, N, R, K, L⟩ := letters
  have h0 := h.keep (Below.new (.cells nd0 155))
  have hr : (w.alloc (.cells nd0 155)).heap[w.heap.size]? = some (.cells nd0 155 (0, 0)) := heap_alloc_new _ _
  have hw := Below.new (w := w) (.cells nd0 155)
  have hpr : w.heap.size ≠ p := by omega
  clear h
  have hfd := fun k n a t w => field_n k n a t w
  have hft := fun k n a t w => field_t k n a t w
  go_enter Tryz.func186, Tryz.ntmps186
  simp only [L.store, L.build]
  have la := L.agg
  have lz := L.size
  have HL := Lib.hid L
  clear L
  go_upto_region 1 with fail
  change Code.wp _ _ _ _ (w.alloc (.cells nd0 155))
  revert h0 hr hw
  generalize w.alloc (.cells nd0 155) = W0
  intro h0 hr hw
  have H0 := Lib.hid h0
  have HR := Lib.hid hr
  have HW := Lib.hid hw
  have HE0 := Lib.hid (Eats.refl h0)
  clear h0 hr hw
  cases hm : Po.must 1 [] l with
  | none =>
    have HM := Lib.hid hm
    have HX := Lib.hid (show AT = none by rw [← hAT, hm]; rfl)
    clear hm hAT
    go_wp2_with (go_at_call 185; refine (pa_must_no 1 ⟨#[]⟩ _ (HE0.out.at_ H0.out) HM.out).mono ?_; rintro e w9 ⟨hf, hfr⟩; unfold Fails at hf; subst hf)
    rw [← hS, HX.out]
    exact ⟨rfl, rfl, Fr.trans (Fr.of_below HW.out) (HE0.out.fr.trans hfr (.refl _ _)) (.refl _ _)⟩
  | some x =>
    obtain ⟨⟨xk, xt, xn⟩, r1⟩ := x
    have HM := Lib.hid hm
    have hA1 := Lib.hid (show AT = atomAt xt r1 by rw [← hAT, hm]; rfl)
    clear hm hAT
    go_upto_region 2 with (go_at_call 185; refine (pa_must_ok 1 ⟨#[]⟩ _ H0.out HM.out).mono ?_; rintro e w1 ⟨⟨a1, rfl⟩, he1⟩; have HE1 := Lib.hid he1; clear he1)
    by_cases h0 : xt = [97, 110, 121]
    · have e0 : (xt == [97, 110, 121]) = true := by rw [h0]; rfl
      have HX := Lib.hid (show AT = some (⟨1, 0, 0, 0, Po.zero16, []⟩, r1) by rw [hA1.out, atomAt, if_pos h0])
      clear hA1 h0
      go_wp2_with fail
      have hT := HL.out.ty
      subst hT
      refine upon_value (v := .agg (ndVals ⟨1, 0, 0, 0, Po.zero16, []⟩ (.slice none 0 0)).toArray) (w' := w1) (by kernel_rfl) ?_
      rename_i K0 hK0
      refine hK0 _ _ ?_
      have HR2 := HE1.out.var HR.out hpr
      refine wpList_store_mid rfl 155 (.tmp 2) (.tmp 12) rfl w.heap.size 0 (ndVals ⟨1, 0, 0, 0, Po.zero16, []⟩ (.slice none 0 0)).toArray rfl rfl (there_block HR2 (Nat.le_of_eq (nd_size rfl))) (by rw [(nd_size rfl)]; kernel_rfl) (nd_one rfl) ?_
      have hend := put_same (cs := (ndVals ⟨1, 0, 0, 0, Po.zero16, []⟩ (.slice none 0 0)).toArray) HR2 (nd_size rfl)
      have heat := (HE1.out.before HW.out hp).put (b := w.heap.size) (cs := (ndVals ⟨1, 0, 0, 0, Po.zero16, []⟩ (.slice none 0 0)).toArray) (Nat.le_refl _)
      change wpList _ _ _ _ _ (putRow w1 w.heap.size (ndVals ⟨1, 0, 0, 0, Po.zero16, []⟩ (.slice none 0 0)).toArray)
      revert hend heat
      generalize putRow w1 w.heap.size (ndVals ⟨1, 0, 0, 0, Po.zero16, []⟩ (.slice none 0 0)).toArray = W3
      intro hend heat
      have HEND := Lib.hid hend
      have HEAT := Lib.hid heat
      clear hend heat HR2 hK0
      go_wp2_with fail
      refine bodyPost_ret (v := .agg (ndVals ⟨1, 0, 0, 0, Po.zero16, []⟩ (.slice none 0 0)).toArray) (results_node Tryz.results186 rfl HEND.out (nd_size rfl)) rfl ?_
      rw [← hS, HX.out]
      exact ⟨rfl, HEAT.out⟩
    have n0 := h0
    have f0 : (xt == [97, 110, 121]) = false := by simpa using h0
    clear h0
    by_cases h1 : xt = [118, 101, 114, 115, 105, 111, 110]
    · have e1 : (xt == [118, 101, 114, 115, 105, 111, 110]) = true := by rw [h1]; rfl
      have hA2 := Lib.hid (show AT = Po.compare 2 3 r1 by rw [hA1.out, atomAt, if_neg n0, if_pos h1])
      clear hA1 h1
      go_wp2_with fail
      refine (pa_compare 2 3 _ (HE1.out.at_ H0.out)).mono ?_
      intro e w2 hn
      unfold NodeSays at hn
      cases hc : Po.compare 2 3 r1 with
      | none =>
        rw [hc] at hn
        obtain ⟨hf, hfr⟩ := hn
        have HX := Lib.hid (show AT = none by rw [hA2.out, hc])
        clear hc
        unfold Fails at hf
        subst hf
        go_wp2_with fail
        rw [← hS, HX.out]
        exact ⟨rfl, rfl, Fr.trans (Fr.of_below HW.out) (HE1.out.fr.trans hfr (.refl _ _)) (.refl _ _)⟩
      | some y =>
        obtain ⟨y, r2⟩ := y
        rw [hc] at hn
        obtain ⟨hf, he2⟩ := hn
        have HX := Lib.hid (show AT = some (y, r2) by rw [hA2.out, hc])
        have hdg := compare_dg hc
        have HE2 := Lib.hid (HE1.out.trans he2)
        have hsz := nd_size (v := .slice none 0 0) hdg.1
        clear hc he2
        simp only at hf
        subst hf
        have hT := HL.out.ty
        subst hT
        rename_i K0 hK0
        refine hK0 _ _ ?_
        have HR2 := HE2.out.var HR.out hpr
        refine wpList_store_mid rfl 155 (.tmp 2) (.tmp 16) rfl w.heap.size 0 (ndVals y (.slice none 0 0)).toArray rfl rfl (there_block HR2 (Nat.le_of_eq hsz)) (by rw [hsz]; kernel_rfl) (nd_one rfl) ?_
        have hend := put_same (cs := (ndVals y (.slice none 0 0)).toArray) HR2 hsz
        have heat := (HE2.out.before HW.out hp).put (b := w.heap.size) (cs := (ndVals y (.slice none 0 0)).toArray) (Nat.le_refl _)
        change wpList _ _ _ _ _ (putRow w2 w.heap.size (ndVals y (.slice none 0 0)).toArray)
        revert hend heat
        generalize putRow w2 w.heap.size (ndVals y (.slice none 0 0)).toArray = W3
        intro hend heat
        have HEND := Lib.hid hend
        have HEAT := Lib.hid heat
        clear hend heat HR2 hK0
        go_wp2_with fail
        refine bodyPost_ret (v := .agg (ndVals y (.slice none 0 0)).toArray) (results_node Tryz.results186 rfl HEND.out hsz) rfl ?_
        rw [← hS, HX.out]
        exact ⟨rfl, HEAT.out⟩
    have n1 := h1
    have f1 : (xt == [118, 101, 114, 115, 105, 111, 110]) = false := by simpa using h1
    clear h1
    by_cases h2 : xt = [101, 112, 111, 99, 104]
    · have e2 : (xt == [101, 112, 111, 99, 104]) = true := by rw [h2]; rfl
      have hA2 := Lib.hid (show AT = Po.compare 4 5 r1 by rw [hA1.out, atomAt, if_neg n0, if_neg n1, if_pos h2])
      clear hA1 h2
      go_wp2_with fail
      refine (pa_compare 4 5 _ (HE1.out.at_ H0.out)).mono ?_
      intro e w2 hn
      unfold NodeSays at hn
      cases hc : Po.compare 4 5 r1 with
      | none =>
        rw [hc] at hn
        obtain ⟨hf, hfr⟩ := hn
        have HX := Lib.hid (show AT = none by rw [hA2.out, hc])
        clear hc
        unfold Fails at hf
        subst hf
        go_wp2_with fail
        rw [← hS, HX.out]
        exact ⟨rfl, rfl, Fr.trans (Fr.of_below HW.out) (HE1.out.fr.trans hfr (.refl _ _)) (.refl _ _)⟩
      | some y =>
        obtain ⟨y, r2⟩ := y
        rw [hc] at hn
        obtain ⟨hf, he2⟩ := hn
        have HX := Lib.hid (show AT = some (y, r2) by rw [hA2.out, hc])
        have hdg := compare_dg hc
        have HE2 := Lib.hid (HE1.out.trans he2)
        have hsz := nd_size (v := .slice none 0 0) hdg.1
        clear hc he2
        simp only at hf
        subst hf
        have hT := HL.out.ty
        subst hT
        rename_i K0 hK0
        refine hK0 _ _ ?_
        have HR2 := HE2.out.var HR.out hpr
        refine wpList_store_mid rfl 155 (.tmp 2) (.tmp 20) rfl w.heap.size 0 (ndVals y (.slice none 0 0)).toArray rfl rfl (there_block HR2 (Nat.le_of_eq hsz)) (by rw [hsz]; kernel_rfl) (nd_one rfl) ?_
        have hend := put_same (cs := (ndVals y (.slice none 0 0)).toArray) HR2 hsz
        have heat := (HE2.out.before HW.out hp).put (b := w.heap.size) (cs := (ndVals y (.slice none 0 0)).toArray) (Nat.le_refl _)
        change wpList _ _ _ _ _ (putRow w2 w.heap.size (ndVals y (.slice none 0 0)).toArray)
        revert hend heat
        generalize putRow w2 w.heap.size (ndVals y (.slice none 0 0)).toArray = W3
        intro hend heat
        have HEND := Lib.hid hend
        have HEAT := Lib.hid heat
        clear hend heat HR2 hK0
        go_wp2_with fail
        refine bodyPost_ret (v := .agg (ndVals y (.slice none 0 0)).toArray) (results_node Tryz.results186 rfl HEND.out hsz) rfl ?_
        rw [← hS, HX.out]
        exact ⟨rfl, HEAT.out⟩
    have n2 := h2
    have f2 : (xt == [101, 112, 111, 99, 104]) = false := by simpa using h2
    clear h2
    by_cases h3 : xt = [115, 116, 97, 103, 101]
    · have e3 : (xt == [115, 116, 97, 103, 101]) = true := by rw [h3]; rfl
      have hA2 := Lib.hid (show AT = ((Po.must 2 [] r1).bind fun y => (Po.must 1 [105, 115] y.2).bind fun z => (Po.digestF 4 z.2).map fun d => (⟨6, y.1.n, 0, 0, d.1, []⟩, d.2)) by rw [hA1.out, atomAt, if_neg n0, if_neg n1, if_neg n2, if_pos h3])
      clear hA1 h3
      cases hm : Po.must 2 [] r1 with
      | none =>
        have HM1 := Lib.hid hm
        have HX := Lib.hid (show AT = none by rw [hA2.out, hm]; rfl)
        clear hm
        go_wp2_with (go_at_call 185; refine (pa_must_no 2 ⟨#[]⟩ _ (HE1.out.at_ H0.out) HM1.out).mono ?_; rintro e w9 ⟨hf, hfr⟩; unfold Fails at hf; subst hf)
        rw [← hS, HX.out]
        exact ⟨rfl, rfl, Fr.trans (Fr.of_below HW.out) (HE1.out.fr.trans hfr (.refl _ _)) (.refl _ _)⟩
      | some y =>
        obtain ⟨y, r2⟩ := y
        have HM1 := Lib.hid hm
        have hA3 := Lib.hid (show AT = ((Po.must 1 [105, 115] r2).bind fun z => (Po.digestF 4 z.2).map fun d => (⟨6, y.n, 0, 0, d.1, []⟩, d.2)) by rw [hA2.out, hm]; rfl)
        clear hm
        go_upto_region 10 with (go_at_call 185; refine (pa_must_ok 2 ⟨#[]⟩ _ (HE1.out.at_ H0.out) HM1.out).mono ?_; rintro e w2 ⟨⟨a2, rfl⟩, he2⟩; have HE2 := Lib.hid (HE1.out.trans he2); clear he2)
        cases hm : Po.must 1 [105, 115] r2 with
        | none =>
          have HM2 := Lib.hid hm
          have HX := Lib.hid (show AT = none by rw [hA3.out, hm]; rfl)
          clear hm
          go_wp2_with (go_at_call 185; refine (pa_must_no 1 ⟨#[105, 115]⟩ _ (HE2.out.at_ H0.out) HM2.out).mono ?_; rintro e w9 ⟨hf, hfr⟩; unfold Fails at hf; subst hf)
          rw [← hS, HX.out]
          exact ⟨rfl, rfl, Fr.trans (Fr.of_below HW.out) (HE2.out.fr.trans hfr (.refl _ _)) (.refl _ _)⟩
        | some z =>
          obtain ⟨z, r3⟩ := z
          have HM2 := Lib.hid hm
          have hA4 := Lib.hid (show AT = ((Po.digestF 4 r3).map fun d => (⟨6, y.n, 0, 0, d.1, []⟩, d.2)) by rw [hA3.out, hm]; rfl)
          clear hm
          go_upto_region 11 with (go_at_call 185; refine (pa_must_ok 1 ⟨#[105, 115]⟩ _ (HE2.out.at_ H0.out) HM2.out).mono ?_; rintro e w3 ⟨⟨a3, rfl⟩, he3⟩; have HE3 := Lib.hid (HE2.out.trans he3); clear he3)
          go_wp2_with fail
          refine (pa_digest _ (HE3.out.at_ H0.out)).mono ?_
          intro e w4 hn
          unfold DigSays at hn
          cases hc : Po.digestF 4 r3 with
          | none =>
            rw [hc] at hn
            obtain ⟨hf, hfr⟩ := hn
            have HX := Lib.hid (show AT = none by rw [hA4.out, hc]; rfl)
            clear hc
            unfold Fails at hf
            subst hf
            go_wp2_with fail
            rw [← hS, HX.out]
            exact ⟨rfl, rfl, Fr.trans (Fr.of_below HW.out) (HE3.out.fr.trans hfr (.refl _ _)) (.refl _ _)⟩
          | some d =>
            obtain ⟨d, r4⟩ := d
            rw [hc] at hn
            obtain ⟨hf, he4⟩ := hn
            have HX := Lib.hid (show AT = some (⟨6, y.n, 0, 0, d, []⟩, r4) by rw [hA4.out, hc]; rfl)
            have hdl := digest_len hc
            have HE4 := Lib.hid (HE3.out.trans he4)
            clear hc he4
            simp only at hf
            subst hf
            have hsz : (ndVals ⟨6, y.n, 0, 0, d, []⟩ (.slice none 0 0)).toArray.size = 21 := nd_size hdl
            go_wp2_with fail
            have hT := HL.out.ty
            subst hT
            refine upon_value (v := .agg (ndVals ⟨6, y.n, 0, 0, d, []⟩ (.slice none 0 0)).toArray) (w' := w4) (by obtain ⟨a0, a1, a2, a3, a4, a5, a6, a7, a8, a9, b0, b1, b2, b3, b4, b5, rfl⟩ := sixteen hdl; kernel_rfl) ?_
            rename_i K0 hK0
            refine hK0 _ _ ?_
            have HR2 := HE4.out.var HR.out hpr
            refine wpList_store_mid rfl 155 (.tmp 2) (.tmp 31) rfl w.heap.size 0 (ndVals ⟨6, y.n, 0, 0, d, []⟩ (.slice none 0 0)).toArray rfl rfl (there_block HR2 (Nat.le_of_eq hsz)) (by rw [hsz]; kernel_rfl) (nd_one rfl) ?_
            have hend := put_same (cs := (ndVals ⟨6, y.n, 0, 0, d, []⟩ (.slice none 0 0)).toArray) HR2 hsz
            have heat := (HE4.out.before HW.out hp).put (b := w.heap.size) (cs := (ndVals ⟨6, y.n, 0, 0, d, []⟩ (.slice none 0 0)).toArray) (Nat.le_refl _)
            change wpList _ _ _ _ _ (putRow w4 w.heap.size (ndVals ⟨6, y.n, 0, 0, d, []⟩ (.slice none 0 0)).toArray)
            revert hend heat
            generalize putRow w4 w.heap.size (ndVals ⟨6, y.n, 0, 0, d, []⟩ (.slice none 0 0)).toArray = W3
            intro hend heat
            have HEND := Lib.hid hend
            have HEAT := Lib.hid heat
            clear hend heat HR2 hK0
            go_wp2_with fail
            refine bodyPost_ret (v := .agg (ndVals ⟨6, y.n, 0, 0, d, []⟩ (.slice none 0 0)).toArray) (results_node Tryz.results186 rfl HEND.out hsz) rfl ?_
            rw [← hS, HX.out]
            exact ⟨rfl, HEAT.out⟩
    have n3 := h3
    have f3 : (xt == [115, 116, 97, 103, 101]) = false := by simpa using h3
    clear h3
    by_cases h4 : xt = [112, 111, 105, 110, 116]
    · have e4 : (xt == [112, 111, 105, 110, 116]) = true := by rw [h4]; rfl
      have hA2 := Lib.hid (show AT = ((Po.must 2 [] r1).bind fun y => (Po.must 2 [] y.2).bind fun z => (Po.must 1 [116, 111, 111, 107] z.2).bind fun v =>
            if Po.isT v.2 1 [116, 114, 117, 101] then some (⟨7, y.1.n, z.1.n, 1, Po.zero16, []⟩, v.2.tail)
            else (Po.must 1 [102, 97, 108, 115, 101] v.2).map fun u => (⟨7, y.1.n, z.1.n, 2, Po.zero16, []⟩, u.2)) by rw [hA1.out, atomAt, if_neg n0, if_neg n1, if_neg n2, if_neg n3, if_pos h4])
      clear hA1 h4
      cases hm : Po.must 2 [] r1 with
      | none =>
        have HM1 := Lib.hid hm
        have HX := Lib.hid (show AT = none by rw [hA2.out, hm]; rfl)
        clear hm
        go_wp2_with (go_at_call 185; refine (pa_must_no 2 ⟨#[]⟩ _ (HE1.out.at_ H0.out) HM1.out).mono ?_; rintro e w9 ⟨hf, hfr⟩; unfold Fails at hf; subst hf)
        rw [← hS, HX.out]
        exact ⟨rfl, rfl, Fr.trans (Fr.of_below HW.out) (HE1.out.fr.trans hfr (.refl _ _)) (.refl _ _)⟩
      | some y =>
        obtain ⟨y, r2⟩ := y
        have HM1 := Lib.hid hm
        have hA3 := Lib.hid (show AT = ((Po.must 2 [] r2).bind fun z => (Po.must 1 [116, 111, 111, 107] z.2).bind fun v =>
            if Po.isT v.2 1 [116, 114, 117, 101] then some (⟨7, y.n, z.1.n, 1, Po.zero16, []⟩, v.2.tail)
            else (Po.must 1 [102, 97, 108, 115, 101] v.2).map fun u => (⟨7, y.n, z.1.n, 2, Po.zero16, []⟩, u.2)) by rw [hA2.out, hm]; rfl)
        clear hm
        cases hm : Po.must 2 [] r2 with
        | none =>
          have HM2 := Lib.hid hm
          have HX := Lib.hid (show AT = none by rw [hA3.out, hm]; rfl)
          clear hm
          go_wp2_with fail
          refine (pa_must_ok 2 ⟨#[]⟩ _ (HE1.out.at_ H0.out) HM1.out).mono ?_
          rintro e w2 ⟨⟨a2, rfl⟩, he2⟩
          have HE2 := Lib.hid (HE1.out.trans he2)
          clear he2
          go_wp2_with fail
          refine (pa_must_no 2 ⟨#[]⟩ _ (HE2.out.at_ H0.out) HM2.out).mono ?_
          rintro e w9 ⟨hf, hfr⟩
          unfold Fails at hf
          subst hf
          go_wp2_with fail
          rw [← hS, HX.out]
          exact ⟨rfl, rfl, Fr.trans (Fr.of_below HW.out) (HE2.out.fr.trans hfr (.refl _ _)) (.refl _ _)⟩
        | some z =>
          obtain ⟨z, r3⟩ := z
          have HM2 := Lib.hid hm
          have hA4 := Lib.hid (show AT = ((Po.must 1 [116, 111, 111, 107] r3).bind fun v =>
            if Po.isT v.2 1 [116, 114, 117, 101] then some (⟨7, y.n, z.n, 1, Po.zero16, []⟩, v.2.tail)
            else (Po.must 1 [102, 97, 108, 115, 101] v.2).map fun u => (⟨7, y.n, z.n, 2, Po.zero16, []⟩, u.2)) by rw [hA3.out, hm]; rfl)
          clear hm
          go_wp2_with fail
          refine (pa_must_ok 2 ⟨#[]⟩ _ (HE1.out.at_ H0.out) HM1.out).mono ?_
          rintro e w2 ⟨⟨a2, rfl⟩, he2⟩
          have HE2 := Lib.hid (HE1.out.trans he2)
          clear he2
          go_wp2_with fail
          refine (pa_must_ok 2 ⟨#[]⟩ _ (HE2.out.at_ H0.out) HM2.out).mono ?_
          rintro e w3 ⟨⟨a3, rfl⟩, he3⟩
          have HE3 := Lib.hid (HE2.out.trans he3)
          clear he3
          go_upto_region 14 with fail
          cases hm : Po.must 1 [116, 111, 111, 107] r3 with
          | none =>
            have HM3 := Lib.hid hm
            have HX := Lib.hid (show AT = none by rw [hA4.out, hm]; rfl)
            clear hm
            go_wp2_with (go_at_call 185; refine (pa_must_no 1 ⟨#[116, 111, 111, 107]⟩ _ (HE3.out.at_ H0.out) HM3.out).mono ?_; rintro e w9 ⟨hf, hfr⟩; unfold Fails at hf; subst hf)
            rw [← hS, HX.out]
            exact ⟨rfl, rfl, Fr.trans (Fr.of_below HW.out) (HE3.out.fr.trans hfr (.refl _ _)) (.refl _ _)⟩
          | some v =>
            obtain ⟨v, r4⟩ := v
            have HM3 := Lib.hid hm
            have hA5 := Lib.hid (show AT = (if Po.isT r4 1 [116, 114, 117, 101] then some (⟨7, y.n, z.n, 1, Po.zero16, []⟩, r4.tail)
            else (Po.must 1 [102, 97, 108, 115, 101] r4).map fun u => (⟨7, y.n, z.n, 2, Po.zero16, []⟩, u.2)) by rw [hA4.out, hm]; rfl)
            clear hm
            go_upto_region 16 with (go_at_call 185; refine (pa_must_ok 1 ⟨#[116, 111, 111, 107]⟩ _ (HE3.out.at_ H0.out) HM3.out).mono ?_; rintro e w4 ⟨⟨a4, rfl⟩, he4⟩; have HE4 := Lib.hid (HE3.out.trans he4); clear he4)
            cases hi : Po.isT r4 1 [116, 114, 117, 101] with
            | true =>
              have HI := Lib.hid hi
              have HX := Lib.hid (show AT = some (⟨7, y.n, z.n, 1, Po.zero16, []⟩, r4.tail) by rw [hA5.out, if_pos hi])
              clear hi
              go_wp2_with (go_at_call 183; refine (pa_accept_yes 1 ⟨#[116, 114, 117, 101]⟩ _ (HE4.out.at_ H0.out) HI.out).mono ?_; rintro e w5 ⟨rfl, he5⟩; have HE5 := Lib.hid (HE4.out.trans he5); clear he5)
              have hT := HL.out.ty
              subst hT
              refine upon_value (v := .agg (ndVals ⟨7, y.n, z.n, 1, Po.zero16, []⟩ (.slice none 0 0)).toArray) (w' := w5) (by kernel_rfl) ?_
              rename_i K0 hK0
              refine hK0 _ _ ?_
              have HR2 := HE5.out.var HR.out hpr
              refine wpList_store_mid rfl 155 (.tmp 2) (.tmp 50) rfl w.heap.size 0 (ndVals ⟨7, y.n, z.n, 1, Po.zero16, []⟩ (.slice none 0 0)).toArray rfl rfl (there_block HR2 (Nat.le_of_eq (nd_size rfl))) (by rw [(nd_size rfl)]; kernel_rfl) (nd_one rfl) ?_
              have hend := put_same (cs := (ndVals ⟨7, y.n, z.n, 1, Po.zero16, []⟩ (.slice none 0 0)).toArray) HR2 (nd_size rfl)
              have heat := (HE5.out.before HW.out hp).put (b := w.heap.size) (cs := (ndVals ⟨7, y.n, z.n, 1, Po.zero16, []⟩ (.slice none 0 0)).toArray) (Nat.le_refl _)
              change wpList _ _ _ _ _ (putRow w5 w.heap.size (ndVals ⟨7, y.n, z.n, 1, Po.zero16, []⟩ (.slice none 0 0)).toArray)
              revert hend heat
              generalize putRow w5 w.heap.size (ndVals ⟨7, y.n, z.n, 1, Po.zero16, []⟩ (.slice none 0 0)).toArray = W3
              intro hend heat
              have HEND := Lib.hid hend
              have HEAT := Lib.hid heat
              clear hend heat HR2 hK0
              go_wp2_with fail
              refine bodyPost_ret (v := .agg (ndVals ⟨7, y.n, z.n, 1, Po.zero16, []⟩ (.slice none 0 0)).toArray) (results_node Tryz.results186 rfl HEND.out (nd_size rfl)) rfl ?_
              rw [← hS, HX.out]
              exact ⟨rfl, HEAT.out⟩
            | false =>
              have HI := Lib.hid hi
              have hA6 := Lib.hid (show AT = ((Po.must 1 [102, 97, 108, 115, 101] r4).map fun u => (⟨7, y.n, z.n, 2, Po.zero16, []⟩, u.2)) by rw [hA5.out, if_neg (by rw [hi]; simp)])
              clear hi
              go_upto_region 17 with (go_at_call 183; refine (pa_accept_no 1 ⟨#[116, 114, 117, 101]⟩ _ (HE4.out.at_ H0.out) HI.out).mono ?_; rintro e w5 ⟨rfl, he5⟩; have HE5 := Lib.hid (HE4.out.trans he5); clear he5)
              cases hm : Po.must 1 [102, 97, 108, 115, 101] r4 with
              | none =>
                have HM4 := Lib.hid hm
                have HX := Lib.hid (show AT = none by rw [hA6.out, hm]; rfl)
                clear hm
                go_wp2_with (go_at_call 185; refine (pa_must_no 1 ⟨#[102, 97, 108, 115, 101]⟩ _ (HE5.out.at_ H0.out) HM4.out).mono ?_; rintro e w9 ⟨hf, hfr⟩; unfold Fails at hf; subst hf)
                rw [← hS, HX.out]
                exact ⟨rfl, rfl, Fr.trans (Fr.of_below HW.out) (HE5.out.fr.trans hfr (.refl _ _)) (.refl _ _)⟩
              | some u =>
                obtain ⟨u, r5⟩ := u
                have HM4 := Lib.hid hm
                have HX := Lib.hid (show AT = some (⟨7, y.n, z.n, 2, Po.zero16, []⟩, r5) by rw [hA6.out, hm]; rfl)
                clear hm
                go_wp2_with (go_at_call 185; refine (pa_must_ok 1 ⟨#[102, 97, 108, 115, 101]⟩ _ (HE5.out.at_ H0.out) HM4.out).mono ?_; rintro e w6 ⟨⟨a6, rfl⟩, he6⟩; have HE6 := Lib.hid (HE5.out.trans he6); clear he6)
                have hT := HL.out.ty
                subst hT
                refine upon_value (v := .agg (ndVals ⟨7, y.n, z.n, 2, Po.zero16, []⟩ (.slice none 0 0)).toArray) (w' := w6) (by kernel_rfl) ?_
                rename_i K0 hK0
                refine hK0 _ _ ?_
                have HR2 := HE6.out.var HR.out hpr
                refine wpList_store_mid rfl 155 (.tmp 2) (.tmp 50) rfl w.heap.size 0 (ndVals ⟨7, y.n, z.n, 2, Po.zero16, []⟩ (.slice none 0 0)).toArray rfl rfl (there_block HR2 (Nat.le_of_eq (nd_size rfl))) (by rw [(nd_size rfl)]; kernel_rfl) (nd_one rfl) ?_
                have hend := put_same (cs := (ndVals ⟨7, y.n, z.n, 2, Po.zero16, []⟩ (.slice none 0 0)).toArray) HR2 (nd_size rfl)
                have heat := (HE6.out.before HW.out hp).put (b := w.heap.size) (cs := (ndVals ⟨7, y.n, z.n, 2, Po.zero16, []⟩ (.slice none 0 0)).toArray) (Nat.le_refl _)
                change wpList _ _ _ _ _ (putRow w6 w.heap.size (ndVals ⟨7, y.n, z.n, 2, Po.zero16, []⟩ (.slice none 0 0)).toArray)
                revert hend heat
                generalize putRow w6 w.heap.size (ndVals ⟨7, y.n, z.n, 2, Po.zero16, []⟩ (.slice none 0 0)).toArray = W3
                intro hend heat
                have HEND := Lib.hid hend
                have HEAT := Lib.hid heat
                clear hend heat HR2 hK0
                go_wp2_with fail
                refine bodyPost_ret (v := .agg (ndVals ⟨7, y.n, z.n, 2, Po.zero16, []⟩ (.slice none 0 0)).toArray) (results_node Tryz.results186 rfl HEND.out (nd_size rfl)) rfl ?_
                rw [← hS, HX.out]
                exact ⟨rfl, HEAT.out⟩
    have n4 := h4
    have f4 : (xt == [112, 111, 105, 110, 116]) = false := by simpa using h4
    clear h4
    have HX := Lib.hid (show AT = none by rw [hA1.out, atomAt, if_neg n0, if_neg n1, if_neg n2, if_neg n3, if_neg n4])
    clear hA1
    go_wp2_with fail
    rw [← hS, HX.out]
    exact ⟨rfl, rfl, Fr.trans (Fr.of_below HW.out) HE1.out.fr (.refl _ _)⟩
end Go.Proofs.YtdeccekeknlnoaaGreatDoor
