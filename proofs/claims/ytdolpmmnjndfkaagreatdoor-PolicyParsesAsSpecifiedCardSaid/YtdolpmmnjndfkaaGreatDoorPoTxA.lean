/- Chapter 29, the walk: the words of a digest. -/
import Derived.Test.YtdolpmmnjndfkaaGreatDoorPoEv
import Derived.Test.YtdolpmmnjndfkaaGreatDoorPoPl
import Derived.Lib.AppendStr
import Derived.Deep.AppendLies
import Derived.Laws.IdiomStrings
namespace Go.Proofs.YtdolpmmnjndfkaaGreatDoor
open Go.RowKit
theorem idx_dig {d : List Nat} (hd : d.length = 16) {i : Nat} (hi : i < 16) (w : World) : (Instr.index 65 (.agg (dgVals d).toArray) (.int .i64 i)).run Tryz.prog w = .ok (.int .u8 (d.getD i 0 : Nat)) w := by
  obtain ⟨a0, a1, a2, a3, a4, a5, a6, a7, a8, a9, b0, b1, b2, b3, b4, b5, rfl⟩ := sixteen hd
  have hc : i = 0 ∨ i = 1 ∨ i = 2 ∨ i = 3 ∨ i = 4 ∨ i = 5 ∨ i = 6 ∨ i = 7 ∨ i = 8 ∨ i = 9 ∨ i = 10 ∨ i = 11 ∨ i = 12 ∨ i = 13 ∨ i = 14 ∨ i = 15 := by omega
  rcases hc with rfl | rfl | rfl | rfl | rfl | rfl | rfl | rfl | rfl | rfl | rfl | rfl | rfl | rfl | rfl | rfl <;> (show _ = _; kernel_rfl)
/-- bytes as cells -/
def byVals (l : List UInt8) : List Value := l.map fun b => Value.int .u8 (b.toNat : Nat)
namespace Po
def hexAt (i b : Nat) : List UInt8 := (if i % 4 = 0 then [32, 120] else []) ++ [hexc (b / 16), hexc (b % 16)]
theorem hexF_snoc : ∀ (l : List Nat) (i b : Nat), hexF i (l ++ [b]) = hexF i l ++ hexAt (i + l.length) b
  | [], i, b => by simp [hexF, hexAt]
  | a :: l, i, b => by
    simp only [List.cons_append, hexF]
    rw [hexF_snoc l (i + 1) b, show i + 1 + l.length = i + (a :: l).length by simp; omega]
    simp
end Po
theorem u8_info : (Tryz.prog.info? 5).map (fun i => (i.zero, i.size, i.bytes)) = some (some (.int .u8 0), 1, 1) := by kernel_rfl
theorem hex_index {x : Nat} (hx : x < 16) (w : World) : (Instr.index 9 (.string ⟨#[48, 49, 50, 51, 52, 53, 54, 55, 56, 57, 97, 98, 99, 100, 101, 102]⟩) (.int .u8 x)).run Tryz.prog w = .ok (.int .u8 (Po.hexc x).toNat) w := by
  have hc : x = 0 ∨ x = 1 ∨ x = 2 ∨ x = 3 ∨ x = 4 ∨ x = 5 ∨ x = 6 ∨ x = 7 ∨ x = 8 ∨ x = 9 ∨ x = 10 ∨ x = 11 ∨ x = 12 ∨ x = 13 ∨ x = 14 ∨ x = 15 := by omega
  rcases hc with rfl | rfl | rfl | rfl | rfl | rfl | rfl | rfl | rfl | rfl | rfl | rfl | rfl | rfl | rfl | rfl <;> (show _ = _; kernel_rfl)
theorem and15_all : ∀ b : Fin 256, bits BinOp.and IntKind.u8 (b.val : Int) 15 = ((b.val % 16 : Nat) : Int) := by decide +kernel
theorem and15 {b : Nat} (h : b < 256) : bits BinOp.and IntKind.u8 (b : Int) 15 = ((b % 16 : Nat) : Int) := and15_all ⟨b, h⟩
theorem two_one (a b : UInt8) : ∀ u ∈ [Value.int .u8 a.toNat, Value.int .u8 b.toNat], u.oneCell' = true := by
  intro u hu
  simp only [List.mem_cons, List.not_mem_nil, or_false] at hu
  rcases hu with rfl | rfl <;> rfl
theorem hexF_len : ∀ (i : Nat) (l : List Nat), l.length ≤ 16 → (Po.hexF i l).length ≤ 100 := by
  have h : ∀ (l : List Nat) (i : Nat), (Po.hexF i l).length ≤ 4 * l.length := by
    intro l
    induction l with
    | nil => intro i; simp [Po.hexF]
    | cons b l ih =>
      intro i
      have := ih (i + 1)
      simp only [Po.hexF]
      split <;> simp <;> omega
  intro i l hl
  have := h l i
  omega
theorem words_next {w w5 : World} {d : List Nat} {i b x y g2 cap n : Nat} {xs : List Value} (hb : d[i]? = some b) (hx : b / 16 = x) (hy : b % 16 = y)
    (hc : (i % 4 = 0 ∧ n = (Po.hexF 0 (d.take i)).length + 2 ∧ xs = byVals (Po.hexF 0 (d.take i)) ++ Lib.strCells ⟨#[32, 120]⟩) ∨ (¬ i % 4 = 0 ∧ n = (Po.hexF 0 (d.take i)).length ∧ xs = byVals (Po.hexF 0 (d.take i))))
    (h5 : w5.ownsRow w.heap.size 5 1 (.slice (some ⟨g2, 0, none⟩) (n + 2) cap) (n + 2) (xs ++ [.int .u8 (Po.hexc x).toNat, .int .u8 (Po.hexc y).toNat])) (hB : Below w.heap.size w w5) :
    w5.ownsRow w.heap.size 5 1 (.slice (some ⟨g2, 0, none⟩) (n + 2) cap) (Po.hexF 0 (d.take (i + 1))).length (byVals (Po.hexF 0 (d.take (i + 1)))) ∧ Below w.heap.size w w5 := by
  refine ⟨?_, hB⟩
  have hi : i < d.length := (List.getElem?_eq_some_iff.1 hb).1
  have e : d.take (i + 1) = d.take i ++ [b] := by
    rw [List.take_succ_eq_append_getElem hi]
    rw [List.getElem?_eq_getElem hi] at hb
    simp at hb
    rw [hb]
  have hl : (d.take i).length = i := by rw [List.length_take]; omega
  rw [e, Po.hexF_snoc, hl, Nat.zero_add, Po.hexAt, hx, hy]
  rcases hc with ⟨h4, rfl, rfl⟩ | ⟨h4, rfl, rfl⟩
  · rw [if_pos h4]
    simpa [byVals, Lib.strCells] using h5
  · rw [if_neg h4]
    simpa [byVals] using h5
set_option maxRecDepth 1000000 in
set_option maxHeartbeats 1000000 in
theorem po_words (d : List Nat) (hd : d.length = 16) (hb : ∀ b ∈ d, b < 256) (w : World) :
    Calls Tryz.prog 33 #[.agg (dgVals d).toArray] w fun e w' => e = .returned (.string ⟨(Po.hexF 0 d).toArray⟩) ∧ Below w.heap.size w w' := by
  obtain ⟨T, N, R, K, LT⟩ := letters
  have hix := fun (i : Nat) (h : i < 16) => idx_dig hd (i := i) h
  obtain ⟨cs, hcs⟩ : ∃ cs, (dgVals d).toArray = cs := ⟨_, rfl⟩
  have hcz : cs.size = K := by rw [← hcs, LT.szR]; simpa [dgVals] using hd
  have hld : Sem.run Tryz.prog (loadCellsFrom ⟨w.heap.size, 0, none⟩ 0 K #[]) (w.alloc (.cells cs 65)) = .ok cs (w.alloc (.cells cs 65)) := by
    have := LT.ldR (w := w.alloc (.cells (dgVals d).toArray 65)) (b := w.heap.size) (o := 0) (d := d) (by have := range_block (heap_alloc_new w (.cells (dgVals d).toArray 65)); simpa using this) hd
    rw [hcs] at this
    exact this
  rw [hcs] at hix ⊢
  have HIX := Lib.hid hix
  have HB := Lib.hid hb
  clear hix hcs hb
  have la := LT.aggR
  have lz := LT.sizeR
  go_enter Tryz.func33, Tryz.ntmps33
  simp only [LT.loadR]
  go_wp2_with fail
  clear hld
  obtain ⟨i0, hi0, hz0, hz1, hz2⟩ := info_parts u8_info
  go_loopg [3, 7] 16 (fun g s3 s7 wr => ∃ i : Nat, i + g = 16 ∧ s7 = .int .i64 i ∧ Hid (wr.ownsRow w.heap.size 5 1 s3 (Po.hexF 0 (d.take i)).length (byVals (Po.hexF 0 (d.take i))) ∧ Below w.heap.size w wr))
  case atStart => exact ⟨0, by omega, rfl, Lib.hid ⟨⟨rfl, .inl ⟨rfl, rfl⟩⟩, (Below.refl _ _).alloc (Nat.le_refl _) _⟩⟩
  case round =>
    obtain ⟨i, hig, rfl, HR⟩ := hrel
    cases gk with
    | zero =>
      obtain rfl : i = 16 := by omega
      have e : d.take 16 = d := List.take_of_length_le (by omega)
      rw [e] at HR
      obtain ⟨g, cap, hv, -, hlt, hc, hm, hx⟩ := own_cells HR.out.1 (by
        obtain ⟨a0, a1, a2, a3, a4, a5, a6, a7, a8, a9, b0, b1, b2, b3, b4, b5, rfl⟩ := sixteen hd
        simp [Po.hexF])
      subst hv
      have hcv : (convert 99 9 (.slice (some ⟨g, 0, none⟩) (Po.hexF 0 d).length cap)).run Tryz.prog wr = .ok (.string ⟨(Po.hexF 0 d).toArray⟩) wr := by
        refine run_convert_bytes_back wr 99 9 5 ⟨g, 0, none⟩ cap (Po.hexF 0 d) Tryz.underlying99 Tryz.underlying5 Tryz.underlying9 fun j hj => ?_
        rw [Addr.add_mid]
        rw [Nat.zero_add]
        exact hx j _ (by simp [byVals, hj])
      have HF := Lib.hid HR.out.2
      have hi : ¬ ((16 : Nat) : Int) < 16 := by omega
      clear hx hlt hc hm
      go_wp2_with fail
      go_ret
      exact ⟨rfl, HF.out⟩
    | succ g =>
      have hi : (i : Int) < 16 := by omega
      obtain ⟨b, hbd⟩ : ∃ b, d[i]? = some b := ⟨_, List.getElem?_eq_getElem (by omega)⟩
      have hix := HIX.out i (by omega)
      rw [List.getD_eq_getElem?_getD, hbd, Option.getD_some] at hix
      have HBD := Lib.hid hbd
      clear hbd
      have hbl : b < 256 := HB.out b (List.mem_of_getElem? HBD.out)
      have hlen : (Po.hexF 0 (d.take i)).length ≤ 100 := hexF_len _ _ (by rw [List.length_take]; omega)
      by_cases h4 : i % 4 = 0
      · have hm : ((i : Int) % 4 == 0) = true := by simp; omega
        have HLE := Lib.hid hlen
        have hz3 : (Po.hexF 0 (d.take i)).length + (⟨#[32, 120]⟩ : ByteArray).size ≤ maxLen := by have : (⟨#[32, 120]⟩ : ByteArray).size = 2 := rfl; unfold maxLen; omega
        have hz4 : (Po.hexF 0 (d.take i)).length + (⟨#[32, 120]⟩ : ByteArray).size ≤ 140737488355328 := by have : (⟨#[32, 120]⟩ : ByteArray).size = 2 := rfl; omega
        have H34 := Lib.hid (And.intro hz3 hz4)
        clear hz3 hz4 hlen
        go_upto_region 6 with fail
        go_wp2_with (at_builtin; refine Lib.wpList_append_own_string _ rfl (.tmp 14) (.const (.string ⟨#[32, 120]⟩)) 99 9 rfl w.heap.size 5 i0 Tryz.underlying99 Tryz.underlying9 hi0 hz0 hz1 hz2 _ _ _ rfl HR.out.1 ⟨#[32, 120]⟩ rfl H34.out.1 H34.out.2 HR.out.2.size ?_)
        intro v1 w1 hw1 hg1 _
        have HW1 := Lib.hid hw1
        have HG1 := Lib.hid (HR.out.2.grown hg1 HR.out.2.size (fun k hk => (HR.out.1.lt k hk).1))
        clear hw1 hg1
        obtain ⟨x, hx⟩ : ∃ x : Nat, b / 16 = x := ⟨_, rfl⟩
        obtain ⟨y, hy⟩ : ∃ y : Nat, b % 16 = y := ⟨_, rfl⟩
        have hx1 : (b : Int) / 16 = (x : Int) := by omega
        have hb2 := and15 hbl
        rw [hy] at hb2
        have hxi := fun w => hex_index (x := x) (by omega) w
        have hyi := fun w => hex_index (x := y) (by omega) w
        have HXY := Lib.hid (And.intro hx hy)
        have HROW := Lib.hid (((HW1.out).drew).alloc (.cells #[.int .u8 (Po.hexc x).toNat, .int .u8 (Po.hexc y).toNat] 5))
        have HNEW := Lib.hid (World.news_of_block (heap_alloc_new (w1).drew (.cells #[.int .u8 (Po.hexc x).toNat, .int .u8 (Po.hexc y).toNat] 5)))
        have HONE := Lib.hid (two_one (Po.hexc x) (Po.hexc y))
        have HMX := Lib.hid (show (Po.hexF 0 (d.take i)).length + 2 + 2 ≤ maxLen by have := HLE.out; unfold maxLen; omega)
        have HBY := Lib.hid (show ((Po.hexF 0 (d.take i)).length + 2 + 2) * 1 ≤ 140737488355328 by have := HLE.out; omega)
        have HBA := Lib.hid (show w.heap.size ≤ ((w1).drew.alloc (.cells #[.int .u8 (Po.hexc x).toNat, .int .u8 (Po.hexc y).toNat] 5)).heap.size by have := (HG1.out).size; simp; omega)
        clear hx hy
        go_upto_region 7 with fail
        go_region_law (refine step_append_lies _ rfl (.tmp 16) (.tmp 23) 99 rfl w.heap.size 5 i0 (.int .u8 0) 1 1 Tryz.underlying99 hi0 hz0 hz1 hz2 rfl (by decide) _ ((Po.hexF 0 (d.take i)).length + 2) _ rfl HROW.out ⟨(w1).heap.size, 0, none⟩ 2 2 [.int .u8 (Po.hexc x).toNat, .int .u8 (Po.hexc y).toNat] rfl rfl HNEW.out HONE.out (by decide) HMX.out HBY.out HBA.out _ rfl ?_; intro g2 cap w5 hown5 hgrow5 hat5 hlt5)
        all_goals
          go_wp2_with fail
          go_roundg g
          case measure => omega
          case rel => exact ⟨i + 1, by omega, by go_num, Lib.hid (words_next HBD.out HXY.out.1 HXY.out.2 (.inl ⟨h4, rfl, rfl⟩) hown5 ((((HG1.out).drew).alloc (by have := (HG1.out).size; simpa using this) _).grown hgrow5 HBA.out (fun k hk => (HROW.out.lt k hk).1)))⟩
      · have hm : ((i : Int) % 4 == 0) = false := by simp; omega
        have HLE := Lib.hid hlen
        clear hlen
        obtain ⟨x, hx⟩ : ∃ x : Nat, b / 16 = x := ⟨_, rfl⟩
        obtain ⟨y, hy⟩ : ∃ y : Nat, b % 16 = y := ⟨_, rfl⟩
        have hx1 : (b : Int) / 16 = (x : Int) := by omega
        have hb2 := and15 hbl
        rw [hy] at hb2
        have hxi := fun w => hex_index (x := x) (by omega) w
        have hyi := fun w => hex_index (x := y) (by omega) w
        have HXY := Lib.hid (And.intro hx hy)
        have HROW := Lib.hid (((HR.out.1).drew).alloc (.cells #[.int .u8 (Po.hexc x).toNat, .int .u8 (Po.hexc y).toNat] 5))
        have HNEW := Lib.hid (World.news_of_block (heap_alloc_new (wr).drew (.cells #[.int .u8 (Po.hexc x).toNat, .int .u8 (Po.hexc y).toNat] 5)))
        have HONE := Lib.hid (two_one (Po.hexc x) (Po.hexc y))
        have HMX := Lib.hid (show (Po.hexF 0 (d.take i)).length + 2 ≤ maxLen by have := HLE.out; unfold maxLen; omega)
        have HBY := Lib.hid (show ((Po.hexF 0 (d.take i)).length + 2) * 1 ≤ 140737488355328 by have := HLE.out; omega)
        have HBA := Lib.hid (show w.heap.size ≤ ((wr).drew.alloc (.cells #[.int .u8 (Po.hexc x).toNat, .int .u8 (Po.hexc y).toNat] 5)).heap.size by have := (HR.out.2).size; simp; omega)
        clear hx hy
        go_upto_region 7 with fail
        go_region_law (refine step_append_lies _ rfl (.tmp 16) (.tmp 23) 99 rfl w.heap.size 5 i0 (.int .u8 0) 1 1 Tryz.underlying99 hi0 hz0 hz1 hz2 rfl (by decide) _ ((Po.hexF 0 (d.take i)).length) _ rfl HROW.out ⟨(wr).heap.size, 0, none⟩ 2 2 [.int .u8 (Po.hexc x).toNat, .int .u8 (Po.hexc y).toNat] rfl rfl HNEW.out HONE.out (by decide) HMX.out HBY.out HBA.out _ rfl ?_; intro g2 cap w5 hown5 hgrow5 hat5 hlt5)
        all_goals
          go_wp2_with fail
          go_roundg g
          case measure => omega
          case rel => exact ⟨i + 1, by omega, by go_num, Lib.hid (words_next HBD.out HXY.out.1 HXY.out.2 (.inr ⟨h4, rfl, rfl⟩) hown5 ((((HR.out.2).drew).alloc (by have := (HR.out.2).size; simpa using this) _).grown hgrow5 HBA.out (fun k hk => (HROW.out.lt k hk).1)))⟩
end Go.Proofs.YtdolpmmnjndfkaaGreatDoor
