/- Chapter 29, the walk: Text of a policy. -/
import Derived.Test.YtdolpmmnjndfkaaGreatDoorPoTxA
import Derived.Test.YtdolpmmnjndfkaaGreatDoorPoPl
import Derived.Test.YtdolpmmnjndfkaaGreatDoorPoShelfB
import Derived.Deep.QuietTactic
import Derived.BigQuiet
import Derived.Deep.RegionHeld3
import Derived.Outline
namespace Go.Proofs.YtdolpmmnjndfkaaGreatDoor
open Go.RowKit
theorem dec_digits (n : Nat) : Lib.decDigits n = Po.dec n := by
  induction n using Nat.strongRecOn with
  | _ n ih =>
    rw [Lib.decDigits, Po.dec]
    by_cases h : n < 10
    · rw [dif_pos h, if_pos (by omega)]
    · rw [dif_neg h, if_neg (by omega), ih (n / 10) (by omega)]
def strOf (l : List UInt8) : Value := .string ⟨l.toArray⟩
theorem ito_any (m : Nat) (hm : m < 65536) (w : World) (hg : Gl w) :
    Calls Tryz.prog 32 #[.int .i64 m] w fun e w' => e = .returned (.string ⟨(Po.dec m).toArray⟩) ∧ Below w.heap.size w w' := by
  rw [← dec_digits]
  exact itoa_any m (by omega) w hg
/-- a row of strings that the call made, read through the texts ts -/
structure RowS (w : World) (g n : Nat) (ts : List (List UInt8)) : Prop where
  at_ : ∀ j, j < n → w.cell? ⟨g, j, none⟩ = some (.string ⟨(Po.sub ts j).toArray⟩)
  fr : ∀ o, w.frozen? ⟨g, o, none⟩ = false
  lt : g < w.heap.size
theorem RowS.below {w w' : World} {g n : Nat} {r : List (List UInt8)} (h : RowS w g n r) (hb : Below w.heap.size w w') : RowS w' g n r :=
  ⟨fun j hj => (hb.cell (p := ⟨g, j, none⟩) h.lt).trans (h.at_ j hj), fun o => (hb.frozen (p := ⟨g, o, none⟩) h.lt).trans (h.fr o), Nat.lt_of_lt_of_le h.lt hb.size⟩
theorem RowS.set {w : World} {g n k : Nat} {r r' : List (List UInt8)} {v : ByteArray} (h : RowS w g n r) (hk : k < n) (hv : (⟨(Po.sub r' k).toArray⟩ : ByteArray) = v) (ho : ∀ j, j < n → j ≠ k → Po.sub r' j = Po.sub r j) : RowS (w.setCell ⟨g, k, none⟩ (.string v)) g n r' := by
  refine ⟨fun j hj => ?_, fun o => by rw [World.frozen?_setCell]; exact h.fr o, by simpa using h.lt⟩
  by_cases e : j = k
  · subst e
    rw [World.cell?_setCell_same _ _ _ (h.at_ j hj), hv]
  · rw [World.cell?_setCell_other _ _ _ _ (fun q => e (Addr.mk.inj q).2.1.symm), h.at_ j hj, ho j hj e]
theorem sub_ge {r : List (List UInt8)} {j : Nat} (h : r.length ≤ j) : Po.sub r j = [] := by
  unfold Po.sub; rw [List.getD_eq_getElem?_getD, List.getElem?_eq_none h]; rfl
structure TxAt (W wr : World) (g n : Nat) (o : List Po.Nd) (k : Nat) : Prop where
  below : Below g W wr
  row : RowS wr g n (Po.textAll (o.take k))
theorem TxAt.next {W wr w6 : World} {n k : Nat} {o : List Po.Nd} {x : Po.Nd} {v : ByteArray} (h : TxAt W wr W.heap.size n o k) (hb : Below wr.heap.size wr w6) (hx : o[k]? = some x) (hk : k < n) (hn : o.length = n) (hv : (⟨(Po.textNd x (Po.textAll (o.take k))).toArray⟩ : ByteArray) = v) :
    TxAt W (w6.setCell ⟨W.heap.size, k, none⟩ (.string v)) W.heap.size n o (k + 1) := by
  have hs := h.below.size
  have hkl : k < o.length := by omega
  have ht : o.take (k + 1) = o.take k ++ [x] := by
    rw [List.take_succ_eq_append_getElem hkl]
    rw [List.getElem?_eq_getElem hkl] at hx
    simp at hx
    rw [hx]
  have hl : (Po.textAll (o.take k)).length = k := by rw [Po.textAll_len, List.length_take]; omega
  refine ⟨(h.below.trans (hb.mono hs)).setCell (p := ⟨W.heap.size, k, none⟩) (Nat.le_refl _) _, (h.row.below hb).set hk ?_ fun j hj hjk => ?_⟩
  · rw [ht, Po.textAll_snoc, Po.sub_snoc, hl, if_neg (by omega), if_pos rfl, hv]
  · rw [ht, Po.textAll_snoc, Po.sub_snoc, hl]
    by_cases c : j < k
    · rw [if_pos c]
    · rw [if_neg c, if_neg hjk, sub_ge (by omega)]
theorem made_rowS {W w3 : World} {n : Nat} (hn : 0 < n) (hown : w3.ownsRow W.heap.size 9 1 (.slice (some ⟨W.heap.size, 0, none⟩) n n) n (madeCells #[.string ⟨#[]⟩] n).toList) : RowS w3 W.heap.size n [] := by
  obtain ⟨g, cap, hv, hg, hlt, hc, hm, hx⟩ := own_cells hown hn
  simp only [Value.slice.injEq, Option.some.injEq, Addr.mk.injEq, and_true] at hv
  obtain ⟨rfl, -, -⟩ := hv
  have hf : ∀ o, w3.frozen? ⟨W.heap.size, o, none⟩ = false := by
    obtain ⟨-, ⟨hz, -⟩ | ⟨g, cap, cur, h1, h2, h3, -⟩⟩ := hown
    · cases hz
    · simp only [Value.slice.injEq, Option.some.injEq, Addr.mk.injEq, and_true] at h1
      obtain ⟨rfl, -⟩ := h1
      intro o
      simp [World.frozen?, h3]
  refine ⟨fun j hj => ?_, hf, hlt⟩
  rw [sub_ge (by simp)]
  exact hx j _ (by simp [madeCells, hj, Nat.mod_one])
theorem str_info : (Tryz.prog.info? 9).map (fun i => (i.zero, i.size, i.bytes)) = some (some (.string ⟨#[]⟩), 1, 16) := by kernel_rfl
theorem one_box {w : World} {o1 : Obj} : ∀ W, w.alloc o1 = W → W.heap[w.heap.size]? = some o1 ∧ Below w.heap.size w W ∧ W.heap.size = w.heap.size + 1 := by
  rintro W rfl
  exact ⟨heap_alloc_new w o1, Below.new _, by simp⟩
theorem cat_eq (a b : List UInt8) : (⟨a.toArray⟩ : ByteArray) ++ ⟨b.toArray⟩ = ⟨(a ++ b).toArray⟩ := by
  apply ByteArray.ext
  simp [ByteArray.data_append]
theorem cat4 (a b c d : List UInt8) : (⟨a.toArray⟩ : ByteArray) ++ ⟨b.toArray⟩ ++ ⟨c.toArray⟩ ++ ⟨d.toArray⟩ = ⟨(a ++ b ++ c ++ d).toArray⟩ := by
  rw [cat_eq, cat_eq, cat_eq]
theorem cat5 (a b c d e : List UInt8) : (⟨a.toArray⟩ : ByteArray) ++ ⟨b.toArray⟩ ++ ⟨c.toArray⟩ ++ ⟨d.toArray⟩ ++ ⟨e.toArray⟩ = ⟨(a ++ b ++ c ++ d ++ e).toArray⟩ := by
  rw [cat4, cat_eq]
theorem cat6 (a b c d e f g : List UInt8) (h : f = g) : (⟨a.toArray⟩ : ByteArray) ++ ⟨b.toArray⟩ ++ ⟨c.toArray⟩ ++ ⟨d.toArray⟩ ++ ⟨e.toArray⟩ ++ ⟨f.toArray⟩ = ⟨(a ++ b ++ c ++ d ++ e ++ g).toArray⟩ := by
  rw [cat5, cat_eq, h]
theorem fb_true : Lib.formatBool true = [116, 114, 117, 101] := by decide +kernel
theorem fb_false : Lib.formatBool false = [102, 97, 108, 115, 101] := by decide +kernel
theorem strs : Po.str "any" = [97, 110, 121] ∧ Po.str "version == " = [118, 101, 114, 115, 105, 111, 110, 32, 61, 61, 32] ∧ Po.str "version >= " = [118, 101, 114, 115, 105, 111, 110, 32, 62, 61, 32] ∧ Po.str "epoch == " = [101, 112, 111, 99, 104, 32, 61, 61, 32] ∧ Po.str "epoch >= " = [101, 112, 111, 99, 104, 32, 62, 61, 32] ∧ Po.str "stage " = [115, 116, 97, 103, 101, 32] ∧ Po.str " is" = [32, 105, 115] ∧ Po.str "point " = [112, 111, 105, 110, 116, 32] ∧ Po.str " " = [32] ∧ Po.str " took " = [32, 116, 111, 111, 107, 32] ∧ Po.str "true" = [116, 114, 117, 101] ∧ Po.str "false" = [102, 97, 108, 115, 101] ∧ Po.str "!" = [33] ∧ Po.str "(" = [40] ∧ Po.str ")" = [41] ∧ Po.str " && " = [32, 38, 38, 32] ∧ Po.str " || " = [32, 124, 124, 32] := by decide +kernel
section
variable {x : Po.Nd} {ts : List (List UInt8)}
theorem tx_1 (e : x.k = 1) : Po.textNd x ts = [97, 110, 121] := by unfold Po.textNd; rw [e]; exact strs.1
theorem tx_2 (e : x.k = 2) : Po.textNd x ts = [118, 101, 114, 115, 105, 111, 110, 32, 61, 61, 32] ++ Po.dec x.n := by unfold Po.textNd; rw [e]; simp only; rw [strs.2.1]
theorem tx_3 (e : x.k = 3) : Po.textNd x ts = [118, 101, 114, 115, 105, 111, 110, 32, 62, 61, 32] ++ Po.dec x.n := by unfold Po.textNd; rw [e]; simp only; rw [strs.2.2.1]
theorem tx_4 (e : x.k = 4) : Po.textNd x ts = [101, 112, 111, 99, 104, 32, 61, 61, 32] ++ Po.dec x.n := by unfold Po.textNd; rw [e]; simp only; rw [strs.2.2.2.1]
theorem tx_5 (e : x.k = 5) : Po.textNd x ts = [101, 112, 111, 99, 104, 32, 62, 61, 32] ++ Po.dec x.n := by unfold Po.textNd; rw [e]; simp only; rw [strs.2.2.2.2.1]
theorem tx_6 (e : x.k = 6) : Po.textNd x ts = [115, 116, 97, 103, 101, 32] ++ Po.dec x.n ++ [32, 105, 115] ++ Po.hexF 0 x.dg := by unfold Po.textNd; rw [e]; simp only; rw [strs.2.2.2.2.2.1, strs.2.2.2.2.2.2.1]
theorem tx_7 (e : x.k = 7) : Po.textNd x ts = [112, 111, 105, 110, 116, 32] ++ Po.dec x.n ++ [32] ++ Po.dec x.m ++ [32, 116, 111, 111, 107, 32] ++ (if x.side = 1 then [116, 114, 117, 101] else [102, 97, 108, 115, 101]) := by
  obtain ⟨-, -, -, -, -, -, -, e1, e2, e3, e4, e5, -⟩ := strs
  unfold Po.textNd; rw [e]; simp only; rw [e1, e2, e3, e4, e5]
theorem tx_8 {a : Nat} (e : x.k = 8) (h : x.of = [a]) : Po.textNd x ts = [33] ++ Po.sub ts a := by
  obtain ⟨-, -, -, -, -, -, -, -, -, -, -, -, e1, -⟩ := strs
  unfold Po.textNd; rw [e, h]; simp only; rw [e1]; rfl
theorem tx_9 {a c : Nat} (e : x.k = 9) (h : x.of = [a, c]) : Po.textNd x ts = [40] ++ Po.sub ts a ++ [32, 38, 38, 32] ++ Po.sub ts c ++ [41] := by
  obtain ⟨-, -, -, -, -, -, -, -, -, -, -, -, -, e1, e2, e3, -⟩ := strs
  unfold Po.textNd; rw [e, h]; simp only; rw [e1, e2, e3]; rfl
theorem tx_10 {a c : Nat} (e : x.k = 10) (h : x.of = [a, c]) : Po.textNd x ts = [40] ++ Po.sub ts a ++ [32, 124, 124, 32] ++ Po.sub ts c ++ [41] := by
  obtain ⟨-, -, -, -, -, -, -, -, -, -, -, -, -, e1, e2, -, e3⟩ := strs
  unfold Po.textNd; rw [e, h]; simp only; rw [e1, e2, e3]; rfl
end
theorem tx_facts {W wr W5 w6 : World} {n k : Nat} {o : List Po.Nd} {cs : Array Value} (hE : TxAt W wr W.heap.size n o k) (n5 : W5.heap[wr.heap.size]? = some (.cells cs 67 (0, 0))) (hb5 : Below wr.heap.size wr W5) (hs5 : W5.heap.size = wr.heap.size + 1) (hb6 : Below W5.heap.size W5 w6) :
    (∀ j v, cs[j]? = some v → w6.cell? ⟨wr.heap.size, j, none⟩ = some v) ∧ RowS w6 W.heap.size n (Po.textAll (o.take k)) ∧ Below wr.heap.size wr w6 ∧ w6.heap[wr.heap.size]? = some (.cells cs 67 (0, 0)) := by
  have n6 := (hb6.block wr.heap.size (by omega)).trans n5
  exact ⟨fun j v hv => (cell_of_row _ _ j _ _ _ n6).trans hv, (hE.row.below hb5).below hb6, hb5.trans (hb6.mono hb5.size), n6⟩
set_option maxRecDepth 1000000 in
set_option maxHeartbeats 4000000 in
theorem po_text (v : Value) (o : List Po.Nd) (w : World) (L : Nat) (hg : Gl w) (hn : RNds w L w.heap.size v o) (hok : Po.OkAll o) (hl : o.length ≤ 100000) (hM : ∀ k j, (Po.sub (Po.textAll (o.take k)) j).length ≤ 100000) :
    Calls Tryz.prog 16 #[.agg #[v]] w fun e w' => e = .returned (.string ⟨(Po.text o).toArray⟩) ∧ Below w.heap.size w w' := by
  obtain ⟨T, N, R, K, LT⟩ := letters
  obtain ⟨A, c, rfl, hnc, hcm⟩ := hn.form
  obtain ⟨n, hn0⟩ : ∃ n, o.length = n := ⟨_, rfl⟩
  have HN := Lib.hid hn0
  rw [hn0] at hl
  rw [HN.out]
  obtain ⟨i0, hi, hz0, hz1, hz2⟩ := info_parts str_info
  obtain ⟨W, hW⟩ : ∃ W, w.alloc (.cells #[.slice A n c] 25) = W := ⟨_, rfl⟩
  obtain ⟨b1, hB, hsz⟩ := one_box W hW
  have p0 := cell_of_row _ _ 0 _ _ _ b1
  simp only [List.getElem?_toArray, List.getElem?_cons_zero] at p0
  have HBW := Lib.hid hB
  have HSZ := Lib.hid hsz
  have HD := Lib.hid (And.intro hg (And.intro hn (And.intro hok hM)))
  clear b1 hB hsz hg hn hok hM hn0 hnc hcm
  go_enter Tryz.func16, Tryz.ntmps16
  simp only [LT.load, LT.store, LT.loadR]
  go_wp2_with (at_make; refine wpList_make_full _ rfl _ _ 52 rfl W.heap.size 9 i0 (.string ⟨#[]⟩) 1 Tryz.underlying52 hi hz0 hz1 _ _ _ _ n rfl rfl rfl rfl (by rw [hz2]; omega) (by unfold maxLen; omega) (Nat.le_refl _) ?_)
  intro w3 hown hgr
  clear hi hz0 hz1 hz2
  have hb3 : Below W.heap.size W w3 := (Below.refl _ _).grown hgr (Nat.le_refl _) (fun k hk => by cases hk)
  have hp3 : w3.cell? ⟨w.heap.size, 0, none⟩ = some (.slice A n c) := (hb3.cell (p := ⟨w.heap.size, 0, none⟩) (show w.heap.size < W.heap.size by rw [HSZ.out]; omega)).trans p0
  have HE3 : Hid (0 < n → TxAt W w3 W.heap.size n o 0) := Lib.hid fun hn => TxAt.mk hb3 (made_rowS hn hown)
  have HB3 := Lib.hid hb3
  clear hb3 hown hgr p0 hW
  rcases Nat.eq_zero_or_pos n with hz | hpos
  · subst hz
    obtain rfl : o = [] := List.eq_nil_of_length_eq_zero HN.out
    go_wp2_with fail
    go_loopg [15] 0 (fun g s15 wr => s15 = .int .i64 0 ∧ wr = w3)
    case atStart => exact ⟨rfl, rfl⟩
    case round =>
      obtain ⟨rfl, rfl⟩ := hrel
      go_wp2_with fail
      go_ret
      exact ⟨rfl, HBW.out.trans (HB3.out.mono HBW.out.size)⟩
  go_wp2_with fail
  clear hp3
  go_loopg [15] n (fun g s15 wr => ∃ k : Nat, k + g = n ∧ s15 = .int .i64 k ∧ Hid (TxAt W wr W.heap.size n o k))
  case atStart => exact ⟨0, by omega, rfl, Lib.hid (HE3.out hpos)⟩
  case round =>
    obtain ⟨k, hkg, rfl, HE⟩ := hrel
    clear HE3
    cases gk with
    | zero =>
      obtain rfl : k = n := by omega
      have hk : ¬ (k : Int) < k := by omega
      have hq := HE.out.row.at_ (k - 1) (by omega)
      rw [show Po.textAll (o.take k) = Po.textAll o by rw [List.take_of_length_le (by rw [HN.out]; exact Nat.le_refl _)], ← HN.out, ← Po.text_at] at hq
      rw [HN.out] at hq
      have HEV := Lib.hid (show Below w.heap.size w wr from HBW.out.trans (HE.out.below.mono HBW.out.size))
      have hne : ((k : Int) == 0) = false := by simp; omega
      have hin : 1 ≤ (k : Int) ∧ (k : Int) - 1 < k := by omega
      go_wp2_with fail
      go_ret
      exact ⟨rfl, HEV.out⟩
    | succ g =>
      have hk : (k : Int) < n := by omega
      have hk2 : 0 ≤ (k : Int) ∧ (k : Int) < n := by omega
      obtain ⟨x, hx⟩ : ∃ x, o[k]? = some x := ⟨_, List.getElem?_eq_getElem (by rw [HN.out]; omega)⟩
      obtain ⟨b, off, u, rfl, hbB, hrw, hof⟩ := HD.out.2.1.at hx
      have hbW : Below w.heap.size w wr := HBW.out.trans (HE.out.below.mono HBW.out.size)
      have hrr : wr.rangeAt b (off + k * 21) (ndVals x u) := fun j v hv => (hbW.cell (p := ⟨b, _, none⟩) hbB).trans (hrw j v hv)
      have hok := HD.out.2.2.1 k x hx
      have hld := LT.ldN hrr (ndVals_len hok.dg)
      have la := LT.agg
      have lz := LT.size
      obtain ⟨cs, hcs⟩ : ∃ cs, (ndVals x u).toArray = cs := ⟨_, rfl⟩
      have hst := store_new hok.dg hof.one' wr
      have hcn : cs.size = N := by rw [← hcs, LT.sz]; exact nd_size hok.dg
      obtain ⟨cl0, cl1, cl2, cl3, cl20, -⟩ := nd_cells x u hok.dg
      have cd := nd_dig x u
      rw [hcs] at hld hst cl0 cl1 cl2 cl3 cl20 cd
      have HX := Lib.hid (And.intro hx (And.intro hof hok))
      have HCS := Lib.hid (And.intro cl0 (And.intro cl1 (And.intro cl2 (And.intro cl3 (And.intro cl20 cd)))))
      clear hrr hrw hbB hcs hx hof hok cl0 cl2 cl3 cl20 cd
      have q1 : (wr.alloc (.cells cs 67)).cell? ⟨wr.heap.size, 1, none⟩ = some (.int .i64 x.n) := (cell_of_row _ _ 1 cs _ _ (heap_alloc_new wr _)).trans cl1
      clear cl1
      go_upto_region 5 with fail
      clear hst hld
      obtain ⟨W5, hW5⟩ : ∃ W5, wr.alloc (.cells cs 67) = W5 := ⟨_, rfl⟩
      rw [hW5] at q1 ⊢
      obtain ⟨n5, hb5, hs5⟩ := one_box W5 hW5
      have HGL := Lib.hid (HD.out.1.mem (HBW.out.trans ((HE.out.below.mono HBW.out.size).trans (hb5.mono (Nat.le_trans HBW.out.size HE.out.below.size)))))
      have FW6 := Lib.hid (fun w6 (hb6 : Below W5.heap.size W5 w6) => tx_facts HE.out n5 hb5 hs5 hb6)
      have hkn : k < n := by omega
      have hlo := HX.out.2.2.lo
      have hhi := HX.out.2.2.hi
      have hkc : x.k = 1 ∨ x.k = 2 ∨ x.k = 3 ∨ x.k = 4 ∨ x.k = 5 ∨ x.k = 6 ∨ x.k = 7 ∨ x.k = 8 ∨ x.k = 9 ∨ x.k = 10 := by omega
      clear hW5 n5 hb5 hs5 hlo hhi hcn hbW
      rcases hkc with e | e | e | e | e | e | e | e | e | e
      · go_wp2_with (go_at_call 32; (with_reducible refine (ito_any _ HX.out.2.2.nb _ HGL.out).mono ?_); rintro e w6 ⟨rfl, hb6⟩; obtain ⟨cc, hrs, hbb, n6⟩ := FW6.out w6 hb6; have c0 := cc 0 _ HCS.out.1; have s0 := hrs.at_ k hkn; have s1 := hrs.fr k; have HR6 := Lib.hid (And.intro hrs hbb); rw [e] at c0; clear hrs hbb hb6 cc n6)
        go_roundg g
        case measure => omega
        case rel => exact ⟨k + 1, by omega, by go_num, Lib.hid (HE.out.next HR6.out.2 HX.out.1 hkn HN.out (by rw [tx_1 e]))⟩
      · have z1 : ¬ 9223372036854775807 < 11 + (Po.dec x.n).length := by have := Po.dec_len 4 x.n (by have := HX.out.2.2.nb; omega); omega
        go_wp2_with (go_at_call 32; (with_reducible refine (ito_any _ HX.out.2.2.nb _ HGL.out).mono ?_); rintro e w6 ⟨rfl, hb6⟩; obtain ⟨cc, hrs, hbb, n6⟩ := FW6.out w6 hb6; have c0 := cc 0 _ HCS.out.1; have s0 := hrs.at_ k hkn; have s1 := hrs.fr k; have HR6 := Lib.hid (And.intro hrs hbb); rw [e] at c0; clear hrs hbb hb6 cc n6)
        go_roundg g
        case measure => omega
        case rel => exact ⟨k + 1, by omega, by go_num, Lib.hid (HE.out.next HR6.out.2 HX.out.1 hkn HN.out (by rw [tx_2 e]; exact (cat_eq [118, 101, 114, 115, 105, 111, 110, 32, 61, 61, 32] _).symm))⟩
      · have z1 : ¬ 9223372036854775807 < 11 + (Po.dec x.n).length := by have := Po.dec_len 4 x.n (by have := HX.out.2.2.nb; omega); omega
        go_wp2_with (go_at_call 32; (with_reducible refine (ito_any _ HX.out.2.2.nb _ HGL.out).mono ?_); rintro e w6 ⟨rfl, hb6⟩; obtain ⟨cc, hrs, hbb, n6⟩ := FW6.out w6 hb6; have c0 := cc 0 _ HCS.out.1; have s0 := hrs.at_ k hkn; have s1 := hrs.fr k; have HR6 := Lib.hid (And.intro hrs hbb); rw [e] at c0; clear hrs hbb hb6 cc n6)
        go_roundg g
        case measure => omega
        case rel => exact ⟨k + 1, by omega, by go_num, Lib.hid (HE.out.next HR6.out.2 HX.out.1 hkn HN.out (by rw [tx_3 e]; exact (cat_eq [118, 101, 114, 115, 105, 111, 110, 32, 62, 61, 32] _).symm))⟩
      · have z1 : ¬ 9223372036854775807 < 9 + (Po.dec x.n).length := by have := Po.dec_len 4 x.n (by have := HX.out.2.2.nb; omega); omega
        go_wp2_with (go_at_call 32; (with_reducible refine (ito_any _ HX.out.2.2.nb _ HGL.out).mono ?_); rintro e w6 ⟨rfl, hb6⟩; obtain ⟨cc, hrs, hbb, n6⟩ := FW6.out w6 hb6; have c0 := cc 0 _ HCS.out.1; have s0 := hrs.at_ k hkn; have s1 := hrs.fr k; have HR6 := Lib.hid (And.intro hrs hbb); rw [e] at c0; clear hrs hbb hb6 cc n6)
        go_roundg g
        case measure => omega
        case rel => exact ⟨k + 1, by omega, by go_num, Lib.hid (HE.out.next HR6.out.2 HX.out.1 hkn HN.out (by rw [tx_4 e]; exact (cat_eq [101, 112, 111, 99, 104, 32, 61, 61, 32] _).symm))⟩
      · have z1 : ¬ 9223372036854775807 < 9 + (Po.dec x.n).length := by have := Po.dec_len 4 x.n (by have := HX.out.2.2.nb; omega); omega
        go_wp2_with (go_at_call 32; (with_reducible refine (ito_any _ HX.out.2.2.nb _ HGL.out).mono ?_); rintro e w6 ⟨rfl, hb6⟩; obtain ⟨cc, hrs, hbb, n6⟩ := FW6.out w6 hb6; have c0 := cc 0 _ HCS.out.1; have s0 := hrs.at_ k hkn; have s1 := hrs.fr k; have HR6 := Lib.hid (And.intro hrs hbb); rw [e] at c0; clear hrs hbb hb6 cc n6)
        go_roundg g
        case measure => omega
        case rel => exact ⟨k + 1, by omega, by go_num, Lib.hid (HE.out.next HR6.out.2 HX.out.1 hkn HN.out (by rw [tx_5 e]; exact (cat_eq [101, 112, 111, 99, 104, 32, 62, 61, 32] _).symm))⟩
      · have hdn := Po.dec_len 4 x.n (by have := HX.out.2.2.nb; omega)
        have hdh := hexF_len 0 x.dg (by rw [HX.out.2.2.dg]; exact Nat.le_refl _)
        have z1 : ¬ 9223372036854775807 < 6 + (Po.dec x.n).length := by omega
        have z2 : ¬ 9223372036854775807 < 6 + (Po.dec x.n).length + 3 := by omega
        have z3 : ¬ 9223372036854775807 < 6 + (Po.dec x.n).length + 3 + (Po.hexF 0 x.dg).length := by omega
        have laR := LT.aggR
        have lzR := LT.sizeR
        clear hdn hdh
        go_wp2_with (first
          | (go_at_call 32; (with_reducible refine (ito_any _ HX.out.2.2.nb _ HGL.out).mono ?_); rintro e w6 ⟨rfl, hb6⟩; obtain ⟨cc, hrs, hbb, n6⟩ := FW6.out w6 hb6; have c0 := cc 0 _ HCS.out.1; have hlr := LT.ldR (w := w6) (b := wr.heap.size) (o := 4) (d := x.dg) (fun j v hv => cc (4 + j) v (HCS.out.2.2.2.2.2 j v hv)) HX.out.2.2.dg; have HR6 := Lib.hid (And.intro hrs hbb); rw [e] at c0; clear hrs hbb hb6 cc n6)
          | (go_at_call 33; (with_reducible refine (po_words x.dg HX.out.2.2.dg HX.out.2.2.dgb _).mono ?_); rintro e w7 ⟨rfl, hb7⟩; have hr7 := HR6.out.1.below hb7; have s0 := hr7.at_ k hkn; have s1 := hr7.fr k; have HR7 := Lib.hid (HR6.out.2.trans (hb7.mono HR6.out.2.size)); clear hr7 hb7))
        go_roundg g
        case measure => omega
        case rel => exact ⟨k + 1, by omega, by go_num, Lib.hid (HE.out.next HR7.out HX.out.1 hkn HN.out (by rw [tx_6 e]; exact (cat4 [115, 116, 97, 103, 101, 32] _ [32, 105, 115] _).symm))⟩
      · rcases HX.out.2.2.side e with hs1 | hs1
        · have hsI : (x.side : Int) = 1 := by omega
          have hsz := HX.out.2.2.nb
          have hdn := Po.dec_len 4 x.n (by omega)
          have hdm := Po.dec_len 4 x.m (by have := HX.out.2.2.mb; omega)
          have hfb : (Lib.formatBool true).length = 4 := by decide +kernel
          have z1 : ¬ 9223372036854775807 < 6 + (Po.dec x.n).length := by omega
          have z2 : ¬ 9223372036854775807 < 6 + (Po.dec x.n).length + 1 := by omega
          have z3 : ¬ 9223372036854775807 < 6 + (Po.dec x.n).length + 1 + (Po.dec x.m).length := by omega
          have z4 : ¬ 9223372036854775807 < 6 + (Po.dec x.n).length + 1 + (Po.dec x.m).length + 6 := by omega
          have z5 : ¬ 9223372036854775807 < 6 + (Po.dec x.n).length + 1 + (Po.dec x.m).length + 6 + (Lib.formatBool true).length := by omega
          have HSI := Lib.hid hsI
          clear hdn hdm hsz hfb hsI
          go_upto_region 21 with (go_at_call 32; (with_reducible refine (ito_any _ HX.out.2.2.nb _ HGL.out).mono ?_); rintro e w6 ⟨rfl, hb6⟩; obtain ⟨cc, hrs, hbb, n6⟩ := FW6.out w6 hb6; have c0 := cc 0 _ HCS.out.1; have c2 := cc 2 _ HCS.out.2.2.1; have c3 := cc 3 _ HCS.out.2.2.2.1; rw [HSI.out] at c3; have HG6 : Hid (Gl w6.drew) := Lib.hid ((HGL.out.mem hb6).mem ((Below.refl _ _).drew)); have HP6 := Lib.hid (lt_of_block n6); have HR6 := Lib.hid (And.intro hrs hbb); rw [e] at c0; clear hrs hbb hb6 cc n6)
          have hsI := HSI.out
          have HRD := Lib.hid (And.intro (HR6.out.1.below ((Below.refl _ _).drew)) HR6.out.2.drew)
          have hb1 : (((1 : Nat) : Int) == 1) = true := by decide
          go_region_held3 (fun W' => W'.cell? ⟨wr.heap.size, 2, none⟩ = some (.int .i64 x.m) ∧ W'.cell? ⟨wr.heap.size, 3, none⟩ = some (.int .i64 1)) (first | assumption | exact ⟨c2, c3⟩) (first
            | (go_at_call 32; (with_reducible refine (ito_any _ HX.out.2.2.mb _ HG6.out).mono ?_); rintro e8 w8 ⟨rfl, hb8⟩; have hS8 := And.intro ((hb8.cell (p := ⟨wr.heap.size, 2, none⟩) HP6.out).trans c2) ((hb8.cell (p := ⟨wr.heap.size, 3, none⟩) HP6.out).trans c3); have HR8 := Lib.hid (And.intro (HRD.out.1.below hb8) (HRD.out.2.trans (hb8.mono HRD.out.2.size))))
            | (go_at_call 34; (with_reducible refine (Tryz.strconv_FormatBool _ _).mono ?_); rintro e9 w9 ⟨rfl, hw⟩; subst hw))
          all_goals
            have s0 := HR8.out.1.at_ k hkn
            have s1 := HR8.out.1.fr k
            go_wp2_with fail
            go_roundg g
            case measure => omega
            case rel => exact ⟨k + 1, by omega, by go_num, Lib.hid (HE.out.next HR8.out.2 HX.out.1 hkn HN.out (by rw [tx_7 e, if_pos hs1]; exact (cat6 [112, 111, 105, 110, 116, 32] _ [32] _ [32, 116, 111, 111, 107, 32] _ _ fb_true).symm))⟩
        · have hsI : (x.side : Int) = 2 := by omega
          have hsz := HX.out.2.2.nb
          have hdn := Po.dec_len 4 x.n (by omega)
          have hdm := Po.dec_len 4 x.m (by have := HX.out.2.2.mb; omega)
          have hfb : (Lib.formatBool false).length = 5 := by decide +kernel
          have z1 : ¬ 9223372036854775807 < 6 + (Po.dec x.n).length := by omega
          have z2 : ¬ 9223372036854775807 < 6 + (Po.dec x.n).length + 1 := by omega
          have z3 : ¬ 9223372036854775807 < 6 + (Po.dec x.n).length + 1 + (Po.dec x.m).length := by omega
          have z4 : ¬ 9223372036854775807 < 6 + (Po.dec x.n).length + 1 + (Po.dec x.m).length + 6 := by omega
          have z5 : ¬ 9223372036854775807 < 6 + (Po.dec x.n).length + 1 + (Po.dec x.m).length + 6 + (Lib.formatBool false).length := by omega
          have HSI := Lib.hid hsI
          clear hdn hdm hsz hfb hsI
          go_upto_region 21 with (go_at_call 32; (with_reducible refine (ito_any _ HX.out.2.2.nb _ HGL.out).mono ?_); rintro e w6 ⟨rfl, hb6⟩; obtain ⟨cc, hrs, hbb, n6⟩ := FW6.out w6 hb6; have c0 := cc 0 _ HCS.out.1; have c2 := cc 2 _ HCS.out.2.2.1; have c3 := cc 3 _ HCS.out.2.2.2.1; rw [HSI.out] at c3; have HG6 : Hid (Gl w6.drew) := Lib.hid ((HGL.out.mem hb6).mem ((Below.refl _ _).drew)); have HP6 := Lib.hid (lt_of_block n6); have HR6 := Lib.hid (And.intro hrs hbb); rw [e] at c0; clear hrs hbb hb6 cc n6)
          have hsI := HSI.out
          have HRD := Lib.hid (And.intro (HR6.out.1.below ((Below.refl _ _).drew)) HR6.out.2.drew)
          have hb1 : (((2 : Nat) : Int) == 1) = false := by decide
          go_region_held3 (fun W' => W'.cell? ⟨wr.heap.size, 2, none⟩ = some (.int .i64 x.m) ∧ W'.cell? ⟨wr.heap.size, 3, none⟩ = some (.int .i64 2)) (first | assumption | exact ⟨c2, c3⟩) (first
            | (go_at_call 32; (with_reducible refine (ito_any _ HX.out.2.2.mb _ HG6.out).mono ?_); rintro e8 w8 ⟨rfl, hb8⟩; have hS8 := And.intro ((hb8.cell (p := ⟨wr.heap.size, 2, none⟩) HP6.out).trans c2) ((hb8.cell (p := ⟨wr.heap.size, 3, none⟩) HP6.out).trans c3); have HR8 := Lib.hid (And.intro (HRD.out.1.below hb8) (HRD.out.2.trans (hb8.mono HRD.out.2.size))))
            | (go_at_call 34; (with_reducible refine (Tryz.strconv_FormatBool _ _).mono ?_); rintro e9 w9 ⟨rfl, hw⟩; subst hw))
          all_goals
            have s0 := HR8.out.1.at_ k hkn
            have s1 := HR8.out.1.fr k
            go_wp2_with fail
            go_roundg g
            case measure => omega
            case rel => exact ⟨k + 1, by omega, by go_num, Lib.hid (HE.out.next HR8.out.2 HX.out.1 hkn HN.out (by rw [tx_7 e, if_neg (by omega)]; exact (cat6 [112, 111, 105, 110, 116, 32] _ [32] _ [32, 116, 111, 111, 107, 32] _ _ fb_false).symm))⟩
      · obtain ⟨a, ha, hak⟩ := HX.out.2.2.one e
        have hof := HX.out.2.1
        rw [ha] at hof
        obtain ⟨b2, cap2, rfl, hb2, y0⟩ := hof.one
        have hlen := HD.out.2.2.2 k a
        have z1 : ¬ 9223372036854775807 < 1 + (Po.sub (Po.textAll (o.take k)) a).length := by omega
        have hw6 : Hid (∀ w6, Below wr.heap.size wr w6 → w6.cell? ⟨b2, 0, none⟩ = some (.int .i64 a)) := Lib.hid fun w6 h => ((HBW.out.trans ((HE.out.below.mono HBW.out.size).trans (h.mono (Nat.le_trans HBW.out.size HE.out.below.size)))).cell (p := ⟨b2, 0, none⟩) hb2).trans y0
        have han : a < n := by omega
        have hb1 : 0 ≤ (a : Int) ∧ (a : Int) < n := by omega
        have hb0 : 0 ≤ (0 : Int) ∧ (0 : Int) < 1 := by omega
        have HA := Lib.hid ha
        clear hof ha y0 hlen hb2
        go_wp2_with (go_at_call 32; (with_reducible refine (ito_any _ HX.out.2.2.nb _ HGL.out).mono ?_); rintro e w6 ⟨rfl, hb6⟩; obtain ⟨cc, hrs, hbb, n6⟩ := FW6.out w6 hb6; have c0 := cc 0 _ HCS.out.1; have c20 := cc 20 _ HCS.out.2.2.2.2.1; have y0 := hw6.out w6 hbb; have t0 := hrs.at_ a han; have s0 := hrs.at_ k hkn; have s1 := hrs.fr k; have HR6 := Lib.hid (And.intro hrs hbb); rw [e] at c0; clear hrs hbb hb6 cc n6)
        go_roundg g
        case measure => omega
        case rel => exact ⟨k + 1, by omega, by go_num, Lib.hid (HE.out.next HR6.out.2 HX.out.1 hkn HN.out (by rw [tx_8 e HA.out]; exact (cat_eq [33] _).symm))⟩
      · obtain ⟨a, a2, ha, hak, hak2⟩ := HX.out.2.2.two (by omega)
        have hof := HX.out.2.1
        rw [ha] at hof
        obtain ⟨b2, cap2, rfl, hb2, y0, y1⟩ := hof.two
        have hlen := HD.out.2.2.2 k a
        have hlen2 := HD.out.2.2.2 k a2
        have z1 : ¬ 9223372036854775807 < 1 + (Po.sub (Po.textAll (o.take k)) a).length := by omega
        have z2 : ¬ 9223372036854775807 < 1 + (Po.sub (Po.textAll (o.take k)) a).length + 4 := by omega
        have z3 : ¬ 9223372036854775807 < 1 + (Po.sub (Po.textAll (o.take k)) a).length + 4 + (Po.sub (Po.textAll (o.take k)) a2).length := by omega
        have z4 : ¬ 9223372036854775807 < 1 + (Po.sub (Po.textAll (o.take k)) a).length + 4 + (Po.sub (Po.textAll (o.take k)) a2).length + 1 := by omega
        have hw6 : Hid (∀ w6, Below wr.heap.size wr w6 → w6.cell? ⟨b2, 0, none⟩ = some (.int .i64 a) ∧ w6.cell? ⟨b2, 1, none⟩ = some (.int .i64 a2)) := Lib.hid fun w6 h => ⟨((HBW.out.trans ((HE.out.below.mono HBW.out.size).trans (h.mono (Nat.le_trans HBW.out.size HE.out.below.size)))).cell (p := ⟨b2, 0, none⟩) hb2).trans y0, ((HBW.out.trans ((HE.out.below.mono HBW.out.size).trans (h.mono (Nat.le_trans HBW.out.size HE.out.below.size)))).cell (p := ⟨b2, 1, none⟩) hb2).trans y1⟩
        have han : a < n := by omega
        have han2 : a2 < n := by omega
        have hb1 : 0 ≤ (a : Int) ∧ (a : Int) < n := by omega
        have hb3 : 0 ≤ (a2 : Int) ∧ (a2 : Int) < n := by omega
        have hb1' := hb1.2
        have hb3' := hb3.2
        have HA := Lib.hid ha
        clear hof ha y0 y1 hlen hlen2 hb2
        go_upto_region 25 with (go_at_call 32; (with_reducible refine (ito_any _ HX.out.2.2.nb _ HGL.out).mono ?_); rintro e w6 ⟨rfl, hb6⟩; obtain ⟨cc, hrs, hbb, n6⟩ := FW6.out w6 hb6; have c0 := cc 0 _ HCS.out.1; have c20 := cc 20 _ HCS.out.2.2.2.2.1; obtain ⟨y0, y1⟩ := hw6.out w6 hbb; have t0 := hrs.at_ a han; have t1 := hrs.at_ a2 han2; have s0 := hrs.at_ k hkn; have s1 := hrs.fr k; have HR6 := Lib.hid (And.intro hrs hbb); rw [e] at c0; clear hrs hbb hb6 cc n6)
        go_quiet (fail)
        go_wp2_with fail
        go_roundg g
        case measure => omega
        case rel => exact ⟨k + 1, by omega, by go_num, Lib.hid (HE.out.next (below_drewN HR6.out.2 _) HX.out.1 hkn HN.out (by rw [tx_9 e HA.out]; exact (cat5 [40] _ [32, 38, 38, 32] _ [41]).symm))⟩
      · obtain ⟨a, a2, ha, hak, hak2⟩ := HX.out.2.2.two (by omega)
        have hof := HX.out.2.1
        rw [ha] at hof
        obtain ⟨b2, cap2, rfl, hb2, y0, y1⟩ := hof.two
        have hlen := HD.out.2.2.2 k a
        have hlen2 := HD.out.2.2.2 k a2
        have z1 : ¬ 9223372036854775807 < 1 + (Po.sub (Po.textAll (o.take k)) a).length := by omega
        have z2 : ¬ 9223372036854775807 < 1 + (Po.sub (Po.textAll (o.take k)) a).length + 4 := by omega
        have z3 : ¬ 9223372036854775807 < 1 + (Po.sub (Po.textAll (o.take k)) a).length + 4 + (Po.sub (Po.textAll (o.take k)) a2).length := by omega
        have z4 : ¬ 9223372036854775807 < 1 + (Po.sub (Po.textAll (o.take k)) a).length + 4 + (Po.sub (Po.textAll (o.take k)) a2).length + 1 := by omega
        have hw6 : Hid (∀ w6, Below wr.heap.size wr w6 → w6.cell? ⟨b2, 0, none⟩ = some (.int .i64 a) ∧ w6.cell? ⟨b2, 1, none⟩ = some (.int .i64 a2)) := Lib.hid fun w6 h => ⟨((HBW.out.trans ((HE.out.below.mono HBW.out.size).trans (h.mono (Nat.le_trans HBW.out.size HE.out.below.size)))).cell (p := ⟨b2, 0, none⟩) hb2).trans y0, ((HBW.out.trans ((HE.out.below.mono HBW.out.size).trans (h.mono (Nat.le_trans HBW.out.size HE.out.below.size)))).cell (p := ⟨b2, 1, none⟩) hb2).trans y1⟩
        have han : a < n := by omega
        have han2 : a2 < n := by omega
        have hb1 : 0 ≤ (a : Int) ∧ (a : Int) < n := by omega
        have hb3 : 0 ≤ (a2 : Int) ∧ (a2 : Int) < n := by omega
        have hb1' := hb1.2
        have hb3' := hb3.2
        have HA := Lib.hid ha
        clear hof ha y0 y1 hlen hlen2 hb2
        go_upto_region 27 with (go_at_call 32; (with_reducible refine (ito_any _ HX.out.2.2.nb _ HGL.out).mono ?_); rintro e w6 ⟨rfl, hb6⟩; obtain ⟨cc, hrs, hbb, n6⟩ := FW6.out w6 hb6; have c0 := cc 0 _ HCS.out.1; have c20 := cc 20 _ HCS.out.2.2.2.2.1; obtain ⟨y0, y1⟩ := hw6.out w6 hbb; have t0 := hrs.at_ a han; have t1 := hrs.at_ a2 han2; have s0 := hrs.at_ k hkn; have s1 := hrs.fr k; have HR6 := Lib.hid (And.intro hrs hbb); rw [e] at c0; clear hrs hbb hb6 cc n6)
        go_quiet (fail)
        go_wp2_with fail
        go_roundg g
        case measure => omega
        case rel => exact ⟨k + 1, by omega, by go_num, Lib.hid (HE.out.next (below_drewN HR6.out.2 _) HX.out.1 hkn HN.out (by rw [tx_10 e HA.out]; exact (cat5 [40] _ [32, 124, 124, 32] _ [41]).symm))⟩
end Go.Proofs.YtdolpmmnjndfkaaGreatDoor
