/- FuseRaise: for all fuses, banks, numbers, orders and other pulses the law returns true, and what it was handed reads as it did. No conditions. -/
import Derived.Test.YtnahokblbpppeaaRaiseLaw
namespace Go.Proofs.Ytnahokblbpppeaa
open Go.ChangeShapes Go.WideShapes Go.ChangeAt Go.RowKit Go.Deep

theorem own_second {wr : World} {B : Nat} {k k0 : Int} {o1 : Obj} (h : B ≤ wr.heap.size) : ((wr.alloc o1).alloc (.cells #[.int .i64 k, .int .i64 k0, .bool false] 47)).ownsRow B 47 3 (.slice (some ⟨wr.heap.size + 1, 0, none⟩) 1 1) 1 [.int .i64 k, .int .i64 k0, .bool false] := by
  have h1 := World.ownsRow_lit (base := B) (e := 47) (size := 3) (wr.alloc o1) #[.int .i64 k, .int .i64 k0, .bool false] 1 (by simp; omega) (by simp [maxLen]) rfl
  rwa [World.size_alloc] at h1

set_option maxHeartbeats 1000000 in
theorem lawRaise_no {w : World} (v : Value) (f : List (List Nat)) (hf : RRows w w.heap.size v f) (bank n order : Int) (u : Value) (l : List Fz.Hit) (hl : RHits w w.heap.size u l)
    (hno : Fz.valid f = false ∨ Fz.sound f = false ∨ ¬ (0 ≤ bank ∧ bank < f.length) ∨ 100 < l.length) :
    Calls Try.prog 8 #[.agg #[v], .int .i64 bank, .int .u8 n, .int .u64 order, u] w fun e w' => e = .returned (.bool true) ∧ Below w.heap.size w w' := by
  obtain ⟨A, c, rfl⟩ := rows_form hf
  obtain ⟨A2, c2, rfl, hn, hc, -⟩ := hl
  unfold maxLen at hc
  have VF := VarAt.new hf
  have HB : Below w.heap.size w (w.alloc (.cells #[.slice A f.length c] 24)) := Below.new _
  have cF := VF.cell
  cases hv : Fz.valid f
  · have HV := Lib.hid hv
    clear hv hno
    go_enter Try.func8, Try.ntmps8
    go_wp2_with (first | (go_at_call 12; with_reducible refine (rvalid_any _ _ _ VF.rows).mono ?_; rintro e w6 ⟨rfl, hb6⟩; rw [HV.out]; have VF := VF.below hb6; have HB := HB.trans (hb6.mono HB.size); have cF := VF.cell; clear hb6) | (go_at_call 10; with_reducible refine (sanity_any _).mono ?_; rintro e w6 ⟨rfl, hb6⟩; have VF := VF.below hb6; have HB := HB.trans (hb6.mono HB.size); have cF := VF.cell; clear hb6))
    go_ret
    exact ⟨rfl, HB⟩
  · have HT := Lib.hid (Fz.valid_small hv).2
    have HV := Lib.hid hv
    cases hs : Fz.sound f
    · have HSD := Lib.hid hs
      clear hv hno hs
      go_enter Try.func8, Try.ntmps8
      go_wp2_with (first | (go_at_call 12; with_reducible refine (rvalid_any _ _ _ VF.rows).mono ?_; rintro e w6 ⟨rfl, hb6⟩; rw [HV.out]; have VF := VF.below hb6; have HB := HB.trans (hb6.mono HB.size); have cF := VF.cell; clear hb6) | (go_at_call 25; with_reducible refine (rsound_any _ f _ VF.rows HT).mono ?_; rintro e w6 ⟨rfl, hb6⟩; rw [HSD.out]; have VF := VF.below hb6; have HB := HB.trans (hb6.mono HB.size); have cF := VF.cell; clear hb6) | (go_at_call 10; with_reducible refine (sanity_any _).mono ?_; rintro e w6 ⟨rfl, hb6⟩; have VF := VF.below hb6; have HB := HB.trans (hb6.mono HB.size); have cF := VF.cell; clear hb6))
      go_ret
      exact ⟨rfl, HB⟩
    · have HSD := Lib.hid hs
      by_cases h0 : bank < 0
      · clear hv hno hs
        go_enter Try.func8, Try.ntmps8
        go_wp2_with (first | (go_at_call 12; with_reducible refine (rvalid_any _ _ _ VF.rows).mono ?_; rintro e w6 ⟨rfl, hb6⟩; rw [HV.out]; have VF := VF.below hb6; have HB := HB.trans (hb6.mono HB.size); have cF := VF.cell; clear hb6) | (go_at_call 25; with_reducible refine (rsound_any _ f _ VF.rows HT).mono ?_; rintro e w6 ⟨rfl, hb6⟩; rw [HSD.out]; have VF := VF.below hb6; have HB := HB.trans (hb6.mono HB.size); have cF := VF.cell; clear hb6) | (go_at_call 10; with_reducible refine (sanity_any _).mono ?_; rintro e w6 ⟨rfl, hb6⟩; have VF := VF.below hb6; have HB := HB.trans (hb6.mono HB.size); have cF := VF.cell; clear hb6))
        go_ret
        exact ⟨rfl, HB⟩
      · by_cases h1 : (f.length : Int) ≤ bank
        · clear hv hno hs
          go_enter Try.func8, Try.ntmps8
          go_wp2_with (first | (go_at_call 12; with_reducible refine (rvalid_any _ _ _ VF.rows).mono ?_; rintro e w6 ⟨rfl, hb6⟩; rw [HV.out]; have VF := VF.below hb6; have HB := HB.trans (hb6.mono HB.size); have cF := VF.cell; clear hb6) | (go_at_call 25; with_reducible refine (rsound_any _ f _ VF.rows HT).mono ?_; rintro e w6 ⟨rfl, hb6⟩; rw [HSD.out]; have VF := VF.below hb6; have HB := HB.trans (hb6.mono HB.size); have cF := VF.cell; clear hb6) | (go_at_call 10; with_reducible refine (sanity_any _).mono ?_; rintro e w6 ⟨rfl, hb6⟩; have VF := VF.below hb6; have HB := HB.trans (hb6.mono HB.size); have cF := VF.cell; clear hb6))
          go_ret
          exact ⟨rfl, HB⟩
        · have h2 : (100 : Int) < l.length := by
            rcases hno with h | h | h | h
            · rw [h] at hv; cases hv
            · rw [h] at hs; cases hs
            · omega
            · omega
          clear hv hno hs
          go_enter Try.func8, Try.ntmps8
          go_wp2_with (first | (go_at_call 12; with_reducible refine (rvalid_any _ _ _ VF.rows).mono ?_; rintro e w6 ⟨rfl, hb6⟩; rw [HV.out]; have VF := VF.below hb6; have HB := HB.trans (hb6.mono HB.size); have cF := VF.cell; clear hb6) | (go_at_call 25; with_reducible refine (rsound_any _ f _ VF.rows HT).mono ?_; rintro e w6 ⟨rfl, hb6⟩; rw [HSD.out]; have VF := VF.below hb6; have HB := HB.trans (hb6.mono HB.size); have cF := VF.cell; clear hb6) | (go_at_call 10; with_reducible refine (sanity_any _).mono ?_; rintro e w6 ⟨rfl, hb6⟩; have VF := VF.below hb6; have HB := HB.trans (hb6.mono HB.size); have cF := VF.cell; clear hb6))
          go_ret
          exact ⟨rfl, HB⟩

set_option maxHeartbeats 4000000 in
theorem lawRaise_yes {w : World} (v : Value) (f : List (List Nat)) (hf : RRows w w.heap.size v f) (k n T : Nat) (order : Int) (u : Value) (l : List Fz.Hit) (hl : RHits w w.heap.size u l)
    (hv : Fz.valid f = true) (hs : Fz.sound f = true) (hk : k < f.length) (h100 : l.length ≤ 100) (hn255 : n ≤ 255) (hT : (T = n ∧ n ≤ (nthRow f k).length / 3) ∨ (T = (nthRow f k).length / 3 ∧ (nthRow f k).length / 3 < n)) :
    Calls Try.prog 8 #[.agg #[v], .int .i64 k, .int .u8 n, .int .u64 order, u] w fun e w' => e = .returned (.bool true) ∧ Below w.heap.size w w' := by
  obtain ⟨A, c, rfl⟩ := rows_form hf
  have hl' := hl
  obtain ⟨A2, c2, rfl, hn, hc, -⟩ := hl
  unfold maxLen at hc
  obtain ⟨b, o, A', c', rfl, hb, hc1, hlc, hc', -, -⟩ := hf.row k hk
  unfold maxLen at hc'
  have h4 : f.length ≤ 4 := (Fz.valid_iff.1 hv).1
  have h48 : (nthRow f k).length ≤ 48 := ((Fz.valid_iff.1 hv).2 k hk).2.1
  have hTle : T ≤ (nthRow f k).length / 3 := by omega
  have hT16 : T ≤ 16 := by omega
  have HLAW := Lib.hid (fun L => Fz.raise hs hk hTle l L l)
  have HT := Lib.hid (Fz.valid_small hv).2
  have HV := Lib.hid hv
  have HSD := Lib.hid hs
  have e100 : decide ((100 : Int) < (l.length : Int)) = false := by simp; omega
  have e0 : decide ((k : Int) < 0) = false := by simp
  have e1 : decide (f.length ≤ k) = false := by simp; omega
  have VF := VarAt.new hf
  have HB : Below w.heap.size w (w.alloc (.cells #[.slice (some ⟨b, o, none⟩) f.length c] 24)) := Below.new _
  have cF := VF.cell
  have q1 := (HB.cell (p := ⟨b, o + k, none⟩) hb).trans hc1
  clear hv hs hTle
  rcases hT with ⟨rfl, hT2⟩ | ⟨hT1, hT2⟩
  · go_enter Try.func8, Try.ntmps8
    go_wp2_with (first | (go_at_call 12; with_reducible refine (rvalid_any _ _ _ VF.rows).mono ?_; rintro e w6 ⟨rfl, hb6⟩; rw [HV.out]; have VF := VF.below hb6; have HB := HB.trans (hb6.mono HB.size); have cF := VF.cell; clear hb6; have q1 := (HB.cell (p := ⟨b, o + k, none⟩) hb).trans hc1) | (go_at_call 25; with_reducible refine (rsound_any _ f _ VF.rows HT).mono ?_; rintro e w6 ⟨rfl, hb6⟩; rw [HSD.out]; have VF := VF.below hb6; have HB := HB.trans (hb6.mono HB.size); have cF := VF.cell; clear hb6; have q1 := (HB.cell (p := ⟨b, o + k, none⟩) hb).trans hc1))
    have HL0 := Lib.hid ((hl'.below HB).more HB.size)
    obtain ⟨W1, hW1⟩ : ∃ W1, W1 = w6 := ⟨_, rfl⟩
    rw [← hW1] at VF HB HL0
    rw [← hW1]
    have I0 := Lib.hid (And.intro VF HB)
    clear hW1 cF VF HB q1 hT2
    go_loopw [12, 53] (fun lv i wr => ∃ (k0 : Nat) (L : List Fz.Hit), k0 ≤ 3 * T ∧ i = .int .i64 k0 ∧ L.length = k0 ∧ wr.ownsRow W1.heap.size 47 3 lv L.length (hitCells L) ∧ Hid (Fz.covers L k k0) ∧ Below W1.heap.size W1 wr) (fun _ i _ => 3 * T - (intOf i).toNat)
    case atStart => exact ⟨0, [], by omega, rfl, rfl, World.ownsRow_nil _ _ _ _, fun j hj => absurd hj (by omega), Below.refl _ _⟩
    case round =>
      obtain ⟨k0, L, hk0, rfl, hL, hown, HC, hbw⟩ := hrel
      have hz := hbw.size
      by_cases hlt : k0 < 3 * T
      · obtain ⟨i0, hi0, hz0, hz1, hz2⟩ := info_parts infoHit
        cases hB : (bits BinOp.and IntKind.u64 (order / 2 ^ k0) 1 == 1)
        · have HC' := Lib.hid (Fz.covers_head HC.out)
          rcases hown.2 with ⟨rfl, h0⟩ | ⟨g, cap, cur, rfl, hgb, hgg, -, -, -, -⟩
          · go_wp2_with (at_builtin; refine wpList_append_own_none rfl _ _ 40 rfl W1.heap.size 47 i0 3 Try.underlying40 hi0 _ 1 _ (by rfl) (World.ownsRow_lit _ #[.int .i64 k, .int .i64 k0, .bool false] 1 (by simp; omega) (by simp [maxLen]) rfl) (by rfl) ?_)
            have hL0 : L = [] := List.length_eq_zero_iff.1 h0
            subst hL0
            refine ⟨⟨k0 + 1, [⟨k, k0, false⟩], by omega, by go_num, by have := hL; simp at this ⊢; omega, ?_, HC'.out, (hbw.alloc hz _).alloc (by simp; omega) _⟩, by simp [intOf]; omega⟩
            rw [hitCells_one]
            exact own_second (by omega)
          · have hlt2 := lt_of_block hgg
            go_wp2_with (at_builtin; refine wpList_append_own _ rfl _ _ 40 rfl W1.heap.size 47 i0 _ 3 24 Try.underlying40 hi0 hz0 hz1 hz2 rfl (by decide) (.slice (some ⟨wr.heap.size + 1, 0, none⟩) 1 1) 1 [.int .i64 k, .int .i64 k0, .bool false] (by rfl) (own_second (by omega)) ⟨g, 0, none⟩ L.length cap (hitCells L) (by rfl) hown.1 (((hown.alloc _).alloc _).cells rfl) (hitCells_cell L) (by unfold maxLen; omega) (by omega) (by simp; omega) ?_; intro v' w1 hown1 hgrow _)
            have HO1 := Lib.hid (show w1.ownsRow W1.heap.size 47 3 v' ([(⟨k, k0, false⟩ : Fz.Hit)] ++ L).length (hitCells ([(⟨k, k0, false⟩ : Fz.Hit)] ++ L)) by rw [hitCells_app, hitCells_one]; simpa [Nat.add_comm] using hown1)
            have HB3 := Lib.hid (((hbw.alloc hz _).alloc (by simp; omega) _).grown hgrow (by simp; omega) (by intro k hk; simp [Value.ownBlock] at hk; omega))
            clear hown1 hgrow
            go_wp2
            go_roundw
            case rel => exact ⟨k0 + 1, [⟨k, k0, false⟩] ++ L, by omega, by go_num, by simp; omega, HO1.out, HC', HB3.out⟩
            case measure => simp [intOf]; omega
        · have HC' := Lib.hid (Fz.covers_end HC.out)
          go_wp2_with (at_builtin; refine wpList_append_own _ rfl _ _ 40 rfl W1.heap.size 47 i0 _ 3 24 Try.underlying40 hi0 hz0 hz1 hz2 rfl (by decide) _ L.length (hitCells L) (by rfl) ((hown.alloc _).alloc _) ⟨wr.heap.size + 1, 0, none⟩ 1 1 [.int .i64 k, .int .i64 k0, .bool false] (by rfl) (by rfl) (World.news_of_block (cs := #[.int .i64 k, .int .i64 k0, .bool false]) (t := 47) (fr := (0, 0)) (heap_second wr _ _)) (by simp [Value.oneCell']) (by unfold maxLen; omega) (by omega) (by simp; omega) ?_; intro v' w1 hown1 hgrow _)
          have HO1 := Lib.hid (show w1.ownsRow W1.heap.size 47 3 v' (L ++ [(⟨k, k0, false⟩ : Fz.Hit)]).length (hitCells (L ++ [(⟨k, k0, false⟩ : Fz.Hit)])) by rw [hitCells_app, hitCells_one]; simpa using hown1)
          have HB3 := Lib.hid (((hbw.alloc hz _).alloc (by simp; omega) _).grown hgrow (by simp; omega) (fun k hk => (hown.lt k hk).1))
          clear hown1 hgrow
          go_wp2
          go_roundw
          case rel => exact ⟨k0 + 1, L ++ [⟨k, k0, false⟩], by omega, by go_num, by simp; omega, HO1.out, HC', HB3.out⟩
          case measure => simp [intOf]; omega
      · obtain rfl : k0 = 3 * T := by omega
        obtain ⟨VF1, HB1⟩ := I0.out
        have HLL := HLAW.out L HC.out
        have RL := hits_own hown
        have VF2 := VF1.below hbw
        have cF := VF2.cell
        have HB2 := HB1.trans (hbw.mono HB1.size)
        have RO := (HL0.out.below hbw).more hbw.size
        clear hown hlt HC hL
        go_wp2_with fail
        refine (hits_any _ _ f l _ VF2.rows (Fz.valid_small HV.out) RO).mono ?_
        rintro e w2 ⟨v2, rfl, hg2, hb2⟩
        have RL := (RL.below hb2).more hb2.size
        have RO := (RO.below hb2).more hb2.size
        have HB2 := HB2.trans (hb2.mono HB2.size)
        clear hb2
        go_wp2_with fail
        refine (hits_any _ _ (Fz.hits f l) L _ hg2 (Fz.small_hits (Fz.valid_small HV.out) l) RL).mono ?_
        rintro e w3 ⟨v3, rfl, hg3, hb3⟩
        have RO := (RO.below hb3).more hb3.size
        have HB2 := HB2.trans (hb3.mono HB2.size)
        clear hb3
        go_wp2_with fail
        refine (hits_any _ _ _ l _ hg3 (Fz.small_hits (Fz.small_hits (Fz.valid_small HV.out) l) L) RO).mono ?_
        rintro e w4 ⟨v4, rfl, hg4, hb4⟩
        obtain ⟨A4, c4, rfl⟩ := rows_form hg4
        have VG := VarAt.new hg4
        have HB := (HB2.trans (hb4.mono HB2.size)).alloc (HB2.trans (hb4.mono HB2.size)).size (.cells #[.slice A4 (Fz.hits (Fz.hits (Fz.hits f l) L) l).length c4] 24)
        have cG := VG.cell
        clear hg4 hg3 hg2 hb4 RO RL cF
        go_wp2_with (first | (go_at_call 10; with_reducible refine (sanity_any _).mono ?_; rintro e w6 ⟨rfl, hb6⟩; have VG := VG.below hb6; have HB := HB.trans (hb6.mono HB.size); have cG := VG.cell; clear hb6) | (go_at_call 20; (first | with_reducible refine (least_any _ _ _ _ VG.rows).mono ?_); rintro e w6 ⟨rfl, hb6⟩; have VG := VG.below hb6; have HB := HB.trans (hb6.mono HB.size); have cG := VG.cell; clear hb6))
        go_ret
        exact ⟨rfl, HB⟩
  · go_enter Try.func8, Try.ntmps8
    go_wp2_with (first | (go_at_call 12; with_reducible refine (rvalid_any _ _ _ VF.rows).mono ?_; rintro e w6 ⟨rfl, hb6⟩; rw [HV.out]; have VF := VF.below hb6; have HB := HB.trans (hb6.mono HB.size); have cF := VF.cell; clear hb6; have q1 := (HB.cell (p := ⟨b, o + k, none⟩) hb).trans hc1) | (go_at_call 25; with_reducible refine (rsound_any _ f _ VF.rows HT).mono ?_; rintro e w6 ⟨rfl, hb6⟩; rw [HSD.out]; have VF := VF.below hb6; have HB := HB.trans (hb6.mono HB.size); have cF := VF.cell; clear hb6; have q1 := (HB.cell (p := ⟨b, o + k, none⟩) hb).trans hc1))
    have hh : ((nthRow f k).length : Int) / 3 = T := by omega
    rw [hh]
    clear hh hT1
    have HL0 := Lib.hid ((hl'.below HB).more HB.size)
    obtain ⟨W1, hW1⟩ : ∃ W1, W1 = w6 := ⟨_, rfl⟩
    rw [← hW1] at VF HB HL0
    rw [← hW1]
    have I0 := Lib.hid (And.intro VF HB)
    clear hW1 cF VF HB q1 hT2
    go_loopw [12, 53] (fun lv i wr => ∃ (k0 : Nat) (L : List Fz.Hit), k0 ≤ 3 * T ∧ i = .int .i64 k0 ∧ L.length = k0 ∧ wr.ownsRow W1.heap.size 47 3 lv L.length (hitCells L) ∧ Hid (Fz.covers L k k0) ∧ Below W1.heap.size W1 wr) (fun _ i _ => 3 * T - (intOf i).toNat)
    case atStart => exact ⟨0, [], by omega, rfl, rfl, World.ownsRow_nil _ _ _ _, fun j hj => absurd hj (by omega), Below.refl _ _⟩
    case round =>
      obtain ⟨k0, L, hk0, rfl, hL, hown, HC, hbw⟩ := hrel
      have hz := hbw.size
      by_cases hlt : k0 < 3 * T
      · obtain ⟨i0, hi0, hz0, hz1, hz2⟩ := info_parts infoHit
        cases hB : (bits BinOp.and IntKind.u64 (order / 2 ^ k0) 1 == 1)
        · have HC' := Lib.hid (Fz.covers_head HC.out)
          rcases hown.2 with ⟨rfl, h0⟩ | ⟨g, cap, cur, rfl, hgb, hgg, -, -, -, -⟩
          · go_wp2_with (at_builtin; refine wpList_append_own_none rfl _ _ 40 rfl W1.heap.size 47 i0 3 Try.underlying40 hi0 _ 1 _ (by rfl) (World.ownsRow_lit _ #[.int .i64 k, .int .i64 k0, .bool false] 1 (by simp; omega) (by simp [maxLen]) rfl) (by rfl) ?_)
            have hL0 : L = [] := List.length_eq_zero_iff.1 h0
            subst hL0
            refine ⟨⟨k0 + 1, [⟨k, k0, false⟩], by omega, by go_num, by have := hL; simp at this ⊢; omega, ?_, HC'.out, (hbw.alloc hz _).alloc (by simp; omega) _⟩, by simp [intOf]; omega⟩
            rw [hitCells_one]
            exact own_second (by omega)
          · have hlt2 := lt_of_block hgg
            go_wp2_with (at_builtin; refine wpList_append_own _ rfl _ _ 40 rfl W1.heap.size 47 i0 _ 3 24 Try.underlying40 hi0 hz0 hz1 hz2 rfl (by decide) (.slice (some ⟨wr.heap.size + 1, 0, none⟩) 1 1) 1 [.int .i64 k, .int .i64 k0, .bool false] (by rfl) (own_second (by omega)) ⟨g, 0, none⟩ L.length cap (hitCells L) (by rfl) hown.1 (((hown.alloc _).alloc _).cells rfl) (hitCells_cell L) (by unfold maxLen; omega) (by omega) (by simp; omega) ?_; intro v' w1 hown1 hgrow _)
            have HO1 := Lib.hid (show w1.ownsRow W1.heap.size 47 3 v' ([(⟨k, k0, false⟩ : Fz.Hit)] ++ L).length (hitCells ([(⟨k, k0, false⟩ : Fz.Hit)] ++ L)) by rw [hitCells_app, hitCells_one]; simpa [Nat.add_comm] using hown1)
            have HB3 := Lib.hid (((hbw.alloc hz _).alloc (by simp; omega) _).grown hgrow (by simp; omega) (by intro k hk; simp [Value.ownBlock] at hk; omega))
            clear hown1 hgrow
            go_wp2
            go_roundw
            case rel => exact ⟨k0 + 1, [⟨k, k0, false⟩] ++ L, by omega, by go_num, by simp; omega, HO1.out, HC', HB3.out⟩
            case measure => simp [intOf]; omega
        · have HC' := Lib.hid (Fz.covers_end HC.out)
          go_wp2_with (at_builtin; refine wpList_append_own _ rfl _ _ 40 rfl W1.heap.size 47 i0 _ 3 24 Try.underlying40 hi0 hz0 hz1 hz2 rfl (by decide) _ L.length (hitCells L) (by rfl) ((hown.alloc _).alloc _) ⟨wr.heap.size + 1, 0, none⟩ 1 1 [.int .i64 k, .int .i64 k0, .bool false] (by rfl) (by rfl) (World.news_of_block (cs := #[.int .i64 k, .int .i64 k0, .bool false]) (t := 47) (fr := (0, 0)) (heap_second wr _ _)) (by simp [Value.oneCell']) (by unfold maxLen; omega) (by omega) (by simp; omega) ?_; intro v' w1 hown1 hgrow _)
          have HO1 := Lib.hid (show w1.ownsRow W1.heap.size 47 3 v' (L ++ [(⟨k, k0, false⟩ : Fz.Hit)]).length (hitCells (L ++ [(⟨k, k0, false⟩ : Fz.Hit)])) by rw [hitCells_app, hitCells_one]; simpa using hown1)
          have HB3 := Lib.hid (((hbw.alloc hz _).alloc (by simp; omega) _).grown hgrow (by simp; omega) (fun k hk => (hown.lt k hk).1))
          clear hown1 hgrow
          go_wp2
          go_roundw
          case rel => exact ⟨k0 + 1, L ++ [⟨k, k0, false⟩], by omega, by go_num, by simp; omega, HO1.out, HC', HB3.out⟩
          case measure => simp [intOf]; omega
      · obtain rfl : k0 = 3 * T := by omega
        obtain ⟨VF1, HB1⟩ := I0.out
        have HLL := HLAW.out L HC.out
        have RL := hits_own hown
        have VF2 := VF1.below hbw
        have cF := VF2.cell
        have HB2 := HB1.trans (hbw.mono HB1.size)
        have RO := (HL0.out.below hbw).more hbw.size
        clear hown hlt HC hL
        go_wp2_with fail
        refine (hits_any _ _ f l _ VF2.rows (Fz.valid_small HV.out) RO).mono ?_
        rintro e w2 ⟨v2, rfl, hg2, hb2⟩
        have RL := (RL.below hb2).more hb2.size
        have RO := (RO.below hb2).more hb2.size
        have HB2 := HB2.trans (hb2.mono HB2.size)
        clear hb2
        go_wp2_with fail
        refine (hits_any _ _ (Fz.hits f l) L _ hg2 (Fz.small_hits (Fz.valid_small HV.out) l) RL).mono ?_
        rintro e w3 ⟨v3, rfl, hg3, hb3⟩
        have RO := (RO.below hb3).more hb3.size
        have HB2 := HB2.trans (hb3.mono HB2.size)
        clear hb3
        go_wp2_with fail
        refine (hits_any _ _ _ l _ hg3 (Fz.small_hits (Fz.small_hits (Fz.valid_small HV.out) l) L) RO).mono ?_
        rintro e w4 ⟨v4, rfl, hg4, hb4⟩
        obtain ⟨A4, c4, rfl⟩ := rows_form hg4
        have VG := VarAt.new hg4
        have HB := (HB2.trans (hb4.mono HB2.size)).alloc (HB2.trans (hb4.mono HB2.size)).size (.cells #[.slice A4 (Fz.hits (Fz.hits (Fz.hits f l) L) l).length c4] 24)
        have cG := VG.cell
        clear hg4 hg3 hg2 hb4 RO RL cF
        go_wp2_with (first | (go_at_call 10; with_reducible refine (sanity_any _).mono ?_; rintro e w6 ⟨rfl, hb6⟩; have VG := VG.below hb6; have HB := HB.trans (hb6.mono HB.size); have cG := VG.cell; clear hb6) | (go_at_call 20; (first | with_reducible refine (least_any _ _ _ _ VG.rows).mono ?_); rintro e w6 ⟨rfl, hb6⟩; have VG := VG.below hb6; have HB := HB.trans (hb6.mono HB.size); have cG := VG.cell; clear hb6))
        go_ret
        exact ⟨rfl, HB⟩

theorem lawRaise {w : World} (v : Value) (f : List (List Nat)) (hf : RRows w w.heap.size v f) (bank n order : Int) (u : Value) (l : List Fz.Hit) (hl : RHits w w.heap.size u l) (hn : (Lit.int .u8 n).wf = true) (_ho : (Lit.int .u64 order).wf = true) :
    Calls Try.prog 8 #[.agg #[v], .int .i64 bank, .int .u8 n, .int .u64 order, u] w fun e w' => e = .returned (.bool true) ∧ Below w.heap.size w w' := by
  cases hv : Fz.valid f
  · exact lawRaise_no v f hf bank n order u l hl (.inl hv)
  · cases hs : Fz.sound f
    · exact lawRaise_no v f hf bank n order u l hl (.inr (.inl hs))
    · by_cases hb : 0 ≤ bank ∧ bank < f.length
      · by_cases h : l.length ≤ 100
        · obtain ⟨k, rfl⟩ := Int.eq_ofNat_of_zero_le hb.1
          have hn' : 0 ≤ n ∧ n ≤ 255 := by simpa [Lit.wf, IntKind.min, IntKind.max, IntKind.signed, IntKind.bits] using hn
          obtain ⟨m, rfl⟩ := Int.eq_ofNat_of_zero_le hn'.1
          by_cases hm : m ≤ (nthRow f k).length / 3
          · exact lawRaise_yes v f hf k m m order u l hl hv hs (by omega) h (by omega) (.inl ⟨rfl, hm⟩)
          · exact lawRaise_yes v f hf k m _ order u l hl hv hs (by omega) h (by omega) (.inr ⟨rfl, by omega⟩)
        · exact lawRaise_no v f hf bank n order u l hl (.inr (.inr (.inr (by omega))))
      · exact lawRaise_no v f hf bank n order u l hl (.inr (.inr (.inl hb)))

namespace lawRaiseC
set_option maxRecDepth 100000 in
theorem lifted (os : Os) (started : os.Started) (H : Type) (enc : TypeId × Value → H) :
    ReturnsInHanded {} Try.checked os 8 .any (Rows.fuseRaiseSpec.pre6 enc Try.prog Try.f8 Rows.fuseRaiseRow.domain false) (Rows.fuseRaiseSpec.post enc Try.prog Try.f8 false true false false) := by
  refine returnsInHanded_of_change (C := Try.checked) own started (by kernel_rfl) Try.func8
    (ChangeSpec.witness6 (enc := enc) (C := Try.checked) false ⟨#[], #[.agg #[.slice none 0 0], .int .i64 0, .int .u8 0, .int .u64 0, .slice none 0 0], []⟩ 8 (by kernel_rfl) (by kernel_rfl) (by kernel_rfl) (by kernel_rfl)) ?_
  intro W base args ds gs before hval0 hW hcnd _
  have hval : ∀ (j : Nat) t v, Try.f8.params[j]? = some t → args[j]? = some v → Value.okWide Try.prog W .any base t v := hval0
  have hW' := hW
  obtain ⟨p, q, hA0, hV, rfl, hfz, hnd⟩ := hW
  have hA : DataW.TrodAll enc Try.prog W 0 (fun _ => true) true Try.f8.params.toList args.toList ds p := hA0
  rw [Try.params8] at hA hval
  obtain ⟨v0, vs0, d0, ds0, p0, q0, hargs, rfl, rfl, h0, r0⟩ := trodAll_cons hA
  obtain ⟨v1, vs1, d1, ds1, p1, q1, rfl, rfl, rfl, h1, r1⟩ := trodAll_cons r0
  obtain ⟨v2, vs2, d2, ds2, p2, q2, rfl, rfl, rfl, h2, r2⟩ := trodAll_cons r1
  obtain ⟨v3, vs3, d3, ds3, p3, q3, rfl, rfl, rfl, h3, r3⟩ := trodAll_cons r2
  obtain ⟨v4, vs4, d4, ds4, p4, q4, rfl, rfl, rfl, h4, r4⟩ := trodAll_cons r3
  obtain ⟨rfl, rfl, rfl⟩ := trodAll_nil r4
  obtain rfl : args = #[v0, v1, v2, v3, v4] := by cases args; simp_all
  obtain ⟨rfl, rfl⟩ := trodVars_none hV
  have k0 := h0
  have lt0 : ∀ x ∈ p0, x.block < W.heap.size := by obtain ⟨m, hm⟩ := k0; exact DataW.trod_lt m _ _ _ hm
  obtain ⟨cs0, rfl, _⟩ := okWide_struct Try.underlying24 (hval 0 24 v0 rfl rfl)
  obtain ⟨u0, x0, e0, s0⟩ : ∃ v f, (Value.agg cs0).cells.toList = [v] ∧ RRows W W.heap.size v f := by obtain ⟨fuel, hf⟩ := h0; exact reads_fuses hf
  obtain rfl : cs0 = #[u0] := by cases cs0; simpa [Value.cells] using e0
  obtain ⟨a1, rfl, rfl, rfl, w1⟩ := open_int Try.underlying3 (hval 1 3 v1 rfl rfl) h1
  obtain ⟨a2, rfl, rfl, rfl, w2⟩ := open_int Try.underlying5 (hval 2 5 v2 rfl rfl) h2
  obtain ⟨a3, rfl, rfl, rfl, w3⟩ := open_int Try.underlying43 (hval 3 43 v3 rfl rfl) h3
  have k4 := h4
  have lt4 : ∀ x ∈ p4, x.block < W.heap.size := by obtain ⟨m, hm⟩ := k4; exact DataW.trod_lt m _ _ _ hm
  obtain ⟨b4, n4, c4, rfl⟩ := okWide_slice Try.underlying40 (hval 4 40 v4 rfl rfl)
  obtain ⟨u4, x4, e4, s4⟩ : ∃ v f, (Value.slice b4 n4 c4).cells.toList = [v] ∧ RHits W W.heap.size v f := by obtain ⟨fuel, hf⟩ := h4; exact reads_hits hf
  obtain rfl : u4 = Value.slice b4 n4 c4 := by simpa [Value.cells] using e4.symm
  clear hA0 hval0
  refine (lawRaise (w := W) u0 x0 s0 a1 a2 a3 _ x4 s4 w2 w3).mono fun e W' ⟨he, bel⟩ => ?_
  subst he
  exact ⟨_, rfl, _, _, _, [], _, [], hW', trodAll_mk1 (shut_bool Try.underlying4 _), (trodAll_cons_mk (Below.trod laidOut (by kernel_rfl) (of_decide_eq_true (by kernel_rfl)) k0 bel lt0) (trodAll_cons_mk (shut_int Try.underlying3 w1) (trodAll_cons_mk (shut_int Try.underlying5 w2) (trodAll_cons_mk (shut_int Try.underlying43 w3) (trodAll_cons_mk (Below.trod laidOut (by kernel_rfl) (of_decide_eq_true (by kernel_rfl)) k4 bel lt4) trodAll_mk0))))), rfl, bel.frame _, fun h => by cases h⟩

theorem over : Rows.fuseRaiseRow.holds Try.pinned (OpenSpec.ofChange Rows.fuseRaiseSpec) :=
  OpenClaim.holds_of_wide 8 Try.f8 rfl rfl rfl rfl rfl rfl rfl ⟨rfl, rfl, rfl, rfl, rfl⟩ rfl rfl rfl rfl rfl (by kernel_rfl) Try.func8 (by kernel_rfl)
    (of_decide_eq_true (by kernel_rfl)) (by unfold Func.isWrapper; first | (rw [if_pos (by decide +kernel)]; kernel_rfl) | (rw [if_neg (by decide +kernel)]; exact ⟨rfl, rfl⟩))
    (fun os started H enc _ => lifted os started H enc)
end lawRaiseC

theorem fuseRaise_holds : Rows.FuseRaiseSaid := lawRaiseC.over

end Go.Proofs.Ytnahokblbpppeaa
