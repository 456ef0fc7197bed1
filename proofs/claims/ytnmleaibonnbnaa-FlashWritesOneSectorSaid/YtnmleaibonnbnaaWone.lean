/- FlashWritesOneSector: for all records the law returns true, and what it was handed reads as it did. No conditions. -/
import Derived.Test.YtnmleaibonnbnaaFlOpen
namespace Go.Proofs.Ytnmleaibonnbnaa
open Go.ChangeShapes Go.WideShapes Go.ChangeAt Go.RowKit Go.Deep

def NilOK (v : Value) : Prop := ∀ n c, v = .slice none n c → c = 0
def RStrsN (w : World) (B : Nat) (v : Value) (f : List ByteArray) : Prop := RStrs w B v f ∧ NilOK v
section
variable {H : Type} {enc : TypeId × Value → H} {w : World} {base : Nat} {held : Bool}
theorem reads_flashN {fuel : Nat} {cs : List Value} {x : DataW H × List MemPlace} (h : DataW.trod enc Try.prog w base (fun _ => true) held fuel 24 cs = some x) : ∃ v f, cs = [v] ∧ RStrsN w w.heap.size v f := by
  obtain ⟨v, f, e, hr⟩ := reads_flash h
  refine ⟨v, f, e, hr, ?_⟩
  subst e
  obtain ⟨xs, n, _, _, hlen, hxl, hf⟩ := DataW.trod_struct Try.underlying24 h
  match xs, hxl with
  | [y], _ =>
    have h1 : DataW.trod enc Try.prog w base (fun _ => true) held n 22 (([v].drop 0).take (Try.prog.cellsOf 22)) = [y][0]? := hf 0 _ rfl
    have hC2 : Try.prog.cellsOf 22 = 1 := by kernel_rfl
    rw [hC2] at h1
    rcases open_strings Try.underlying22 Try.underlying9 (by kernel_rfl) h1 with ⟨e, _⟩ | ⟨a, len, cap, ss, e, _⟩
    · simp at e
      intro n c e2
      rw [e] at e2
      cases e2; rfl
    · simp at e
      intro n c e2
      rw [e] at e2
      cases e2
theorem reads_OneIn {fuel : Nat} {cs : List Value} {x : DataW H × List MemPlace} (h : DataW.trod enc Try.prog w base (fun _ => true) held fuel 38 cs = some x) :
    ∃ (v0 : Value) (f0 : List ByteArray) (n1 : Int) (n2 : Int) (n3 : Int), cs = [v0, .int .i64 n1, .int .u8 n2, .int .i64 n3] ∧ RStrsN w w.heap.size v0 f0 ∧ (Lit.int .i64 n1).wf = true ∧ (Lit.int .u8 n2).wf = true ∧ (Lit.int .i64 n3).wf = true := by
  obtain ⟨xs, n, _, _, hlen, hxl, hf⟩ := DataW.trod_struct Try.underlying38 h
  have hC : Try.prog.cellsOf 38 = 4 := by kernel_rfl
  rw [hC] at hlen
  match cs, hlen with
  | [c0, c1, c2, c3], _ =>
    match xs, hxl with
    | [y0, y1, y2, y3], _ =>
      have hC0 : Try.prog.cellsOf 24 = 1 := by kernel_rfl
      have h0 : DataW.trod enc Try.prog w base (fun _ => true) held n 24 (([c0, c1, c2, c3].drop 0).take (Try.prog.cellsOf 24)) = [y0, y1, y2, y3][0]? := hf 0 _ rfl
      rw [hC0] at h0
      obtain ⟨v0, f0, e0, q0⟩ := reads_flashN h0
      have hC1 : Try.prog.cellsOf 3 = 1 := by kernel_rfl
      have h1 : DataW.trod enc Try.prog w base (fun _ => true) held n 3 (([c0, c1, c2, c3].drop 1).take (Try.prog.cellsOf 3)) = [y0, y1, y2, y3][1]? := hf 1 _ rfl
      rw [hC1] at h1
      obtain ⟨n1, e1, _, q1⟩ := DataW.trod_int Try.underlying3 h1
      have hC2 : Try.prog.cellsOf 5 = 1 := by kernel_rfl
      have h2 : DataW.trod enc Try.prog w base (fun _ => true) held n 5 (([c0, c1, c2, c3].drop 2).take (Try.prog.cellsOf 5)) = [y0, y1, y2, y3][2]? := hf 2 _ rfl
      rw [hC2] at h2
      obtain ⟨n2, e2, _, q2⟩ := DataW.trod_int Try.underlying5 h2
      have hC3 : Try.prog.cellsOf 3 = 1 := by kernel_rfl
      have h3 : DataW.trod enc Try.prog w base (fun _ => true) held n 3 (([c0, c1, c2, c3].drop 3).take (Try.prog.cellsOf 3)) = [y0, y1, y2, y3][3]? := hf 3 _ rfl
      rw [hC3] at h3
      obtain ⟨n3, e3, _, q3⟩ := DataW.trod_int Try.underlying3 h3
      simp at e0 e1 e2 e3
      exact ⟨v0, f0, n1, n2, n3, by rw [e0, e1, e2, e3], q0, q1, q2, q3⟩

end
theorem strs_news' {W : World} {B n c : Nat} {ad : Addr} {f : List ByteArray} (h : RStrs W B (.slice (some ad) n c) f) : ∀ j u, (f.map Value.string)[j]? = some u → W.cell? (ad.add j) = some u := by
  intro j u hu
  have hj : j < f.length := by
    have := (List.getElem?_eq_some_iff.1 hu).1
    simpa using this
  obtain ⟨b', o', e, _, hc, _⟩ := h.at_ hj
  cases e
  have hadd : (⟨b', o', none⟩ : Addr).add j = ⟨b', o' + j, none⟩ := by unfold Addr.add; split <;> simp_all
  rw [hadd, hc, ← hu]
  simp [nthS, hj]
theorem RStrs.capped {w : World} {B n c : Nat} {A : Option Addr} {f : List ByteArray} (h : RStrs w B (.slice A n c) f) : c ≤ maxLen := by
  obtain ⟨_, _, e, _, hc⟩ := h.form
  cases e; exact hc
namespace Fl
theorem write_nil (s : Int) (b : ByteArray) (cut : Int) : write [] s b cut = [] := by unfold write; split <;> simp
theorem writeE_nil (s : Int) (b : ByteArray) : writeE [] s b = 13 := by
  have : has [] s = false := by simp [has]
  simp [writeE, this]
theorem writeE_has (f : List ByteArray) (s : Int) {b : ByteArray} (hb : b.size = 256) : (writeE f s b == 0) = (decide (0 ≤ s) && decide (s < (f.length : Int))) := by
  have e : has f s = (decide (0 ≤ s) && decide (s < (f.length : Int))) := by unfold has; rw [Bool.decide_and]
  unfold writeE
  rw [if_pos hb, ← e]
  cases has f s <;> rfl
theorem write_other' {f : List ByteArray} {s : Int} {b : ByteArray} {cut E : Int} {j : Nat} (h : (j : Int) ≠ s ∨ E ≠ 0) (hE : E = writeE f s b) : nthS (write f s b cut) j = nthS f j := by
  refine write_other s cut ?_
  rcases h with h | h
  · simp [h]
  · have : writeOK f s b = false := by
      rw [hE] at h
      cases hw : writeOK f s b
      · rfl
      · simp only [writeOK, Bool.and_eq_true, decide_eq_true_eq] at hw
        simp [writeE, hw.1, hw.2] at h
    simp [this]
end Fl

set_option maxRecDepth 100000 in
set_option maxHeartbeats 8000000 in
theorem lawOneSome {w : World} (ad : Addr) (c : Nat) (f0 : List ByteArray) (n1 n2 n3 : Int) (hf : RStrs w w.heap.size (.slice (some ad) f0.length c) f0) :
    Calls Try.prog 4 #[.agg #[.slice (some ad) f0.length c, .int .i64 n1, .int .u8 n2, .int .i64 n3]] w fun e w' => e = .returned (.bool true) ∧ Below w.heap.size w w' := by
  have hcm := hf.capped
  unfold maxLen at hcm
  have HB : Below w.heap.size w ((w.alloc (.cells #[.slice (some ad) f0.length c, .int .i64 n1, .int .u8 n2, .int .i64 n3] 38)).alloc (.cells #[.slice (some ad) f0.length c] 24)) := ((Below.refl _ _).alloc (Nat.le_refl _) _).alloc (by simp) _
  have VF : SAt ((w.alloc (.cells #[.slice (some ad) f0.length c, .int .i64 n1, .int .u8 n2, .int .i64 n3] 38)).alloc (.cells #[.slice (some ad) f0.length c] 24)) (w.heap.size + 1) (.slice (some ad) f0.length c) f0 := ⟨heap_second' _ _ _, (hf.below HB).more HB.size⟩
  cases hv : Fl.valid f0
  · have HV := Lib.hid hv
    clear hv
    go_enter Try.func4, Try.ntmps4
    go_wp2_with fail
    refine (sanity_any _).mono ?_
    rintro e w1 ⟨rfl, hb1⟩
    have VF := VF.below hb1
    have HB := HB.trans (hb1.mono HB.size)
    have cF := VF.cell
    clear hb1
    go_wp2_with fail
    refine (rvalid_any _ _ _ VF.strs).mono ?_
    rintro e w2 ⟨rfl, hb2⟩
    rw [HV.out]
    have HB := HB.trans (hb2.mono HB.size)
    go_wp2
    go_ret
    exact ⟨rfl, HB⟩
  · have HV := Lib.hid hv
    have e3 : f0.length ≤ 128 := Fl.valid_len hv
    clear hv
    go_enter Try.func4, Try.ntmps4
    go_wp2_with fail
    refine (sanity_any _).mono ?_
    rintro e w1 ⟨rfl, hb1⟩
    have VF := VF.below hb1
    have HB := HB.trans (hb1.mono HB.size)
    have cF := VF.cell
    clear hb1
    go_wp2_with fail
    refine (rvalid_any _ _ _ VF.strs).mono ?_
    rintro e w2 ⟨rfl, hb2⟩
    rw [HV.out]
    have VF := VF.below hb2
    have HB := HB.trans (hb2.mono HB.size)
    have cF := VF.cell
    clear hb2
    have hpL := lt_of_block VF.blk
    obtain ⟨i0, hi0, hz0, hz1, hz2⟩ := info_parts infoStr
    go_wp2_with (at_builtin; refine wpList_append_own _ rfl _ _ 22 rfl w2.heap.size 9 i0 _ 1 16 Try.underlying22 hi0 hz0 hz1 hz2 rfl (by decide) (.slice (some ⟨w2.heap.size, 0, none⟩) 0 0) 0 [] (by rfl) (World.ownsRow_lit w2 #[] 0 (Nat.le_refl _) (by simp [maxLen]) (by simp)) ad f0.length c (f0.map Value.string) (by rfl) (by simp) (strs_news' (VF.strs.below (Below.new _))) (by simp [Value.oneCell']) (by unfold maxLen; omega) (by omega) (by simp) ?_; intro v' w3 hown1 hgrow _; rw [Nat.zero_add, List.nil_append] at hown1; have hO : RStrs w3 w3.heap.size v' f0 := strs_own hown1 (VF.strs.sized))
    have hb3 : Below w2.heap.size w2 w3 := Below.grown (Below.new _) hgrow (by simp) (fun j hj => by simp [Value.ownBlock] at hj; omega)
    have VF := VF.below hb3
    have HB := HB.trans (hb3.mono HB.size)
    have cF := VF.cell
    clear hb3 hown1 hgrow hpL
    have VFs := VF.strs
    have hpF := lt_of_block VF.blk
    have hlen0 : f0.length ≤ 1000 := by omega
    have hU0 : Under (w3) (w3.heap.size) (w3) := ⟨by simpa using Below.refl _ _, by simp⟩
    go_cut [9, 10] (fun a b wc => Wrote (w3) (w3.heap.size) (Fl.write (f0) n1 (Fl.full n2) (n3)) a wc ∧ b = .int .i64 (Fl.writeE f0 n1 (Fl.full n2)))
    case first =>
      go_region_held3 (fun W' => W'.cell? ⟨(w.heap.size + 1), 0, none⟩ = some (.slice (some ad) f0.length c) ∧ Under (w3) (w3.heap.size) W') (first | assumption | exact ⟨Under.cell hU0.drew cF hpF, hU0.drew⟩ | exact ⟨Under.cell hU cF hpF, hU⟩ | (go_split_ands; exact ⟨Under.cell (Under.alloc (by assumption) _) cF hpF, (Under.alloc (by assumption) _)⟩) | (go_split_ands; exact ⟨Under.cell (Under.setCell (by assumption) (Nat.le_refl _) _) cF hpF, (Under.setCell (by assumption) (Nat.le_refl _) _)⟩) | (go_split_ands; exact ⟨Under.cell (Under.setCell (by assumption) hB6 _) cF hpF, (Under.setCell (by assumption) hB6 _)⟩)) (first
        | (go_at_call 21; (with_reducible refine (full_any (n2) _).mono ?_); rintro e w6 ⟨rfl, hb6⟩; go_split_ands; obtain ⟨hk1, hk2⟩ := bcell hb6; (try simp only [World.size_alloc, World.size_drew] at hk1 hk2); have hz6 := hb6.size; (try simp at hz6); (first | have hy6 := Nat.lt_of_succ_le hz6 | skip); have hU := Under.below (by assumption) hb6; have hB6 := hU.le)
        | (go_at_call 15; go_split_ands; (with_reducible refine (write_any _ (f0) n1 (Fl.full (n2)) (n3) _ (Under.strs (Ws := w3) (B := w3.heap.size) (by assumption) VFs) hlen0 (by rw [Fl.full_size]; decide)).mono ?_); rintro e w7 HW; unfold WriteApart at HW; obtain ⟨v', rfl, hs7, hb7, ha7⟩ := HW; skip; obtain ⟨A2, c2, rfl, _, _⟩ := hs7.form; obtain ⟨hk3, hk4⟩ := bcell hb7; (try simp only [World.size_alloc, World.size_drew] at hk3 hk4); have hz7 := hb7.size; have hU2 := Under.here (by assumption) hb7; have hU := Under.below (by assumption) hb7))
      all_goals
        go_wp2_with fail
        go_meet
        first
          | exact ⟨wrote_new hU hs7, rfl⟩
          | exact ⟨wrote_old hU hU2 VFs hs7 ha7 hb7 hB6 (heap_alloc_new _ _), rfl⟩
          | exact ⟨wrote_old hU hU2 VFs hs7 ha7 hb7 (Nat.le_refl _) ((hb6.block _ (by simp)).trans (heap_second' _ _ _)), rfl⟩
          | exact ⟨wrote_old hU hU2 VFs hs7 ha7 hb7 (Nat.le_refl _) ((hb6.block _ (by simp)).trans (heap_alloc_new _ _)), rfl⟩
    case rest =>
      obtain ⟨⟨pG, vG, rfl, VG, hpG, hbc⟩, rfl⟩ := hcut
      rename World => w4
      have VF := VF.below hbc
      have hO := (hO.below hbc).more hbc.size
      have HB := HB.trans (hbc.mono HB.size)
      obtain ⟨G, hG⟩ : ∃ G, G = Fl.write (f0) n1 (Fl.full n2) (n3) := ⟨_, rfl⟩
      obtain ⟨E, hE⟩ : ∃ E, E = Fl.writeE f0 n1 (Fl.full n2) := ⟨_, rfl⟩
      rw [← hG] at VG
      rw [← hE]
      have hGl : G.length = f0.length := by rw [hG, Fl.write_length]
      have HGV := Lib.hid (show Fl.valid G = true by rw [hG]; exact Fl.valid_write _ _ HV.out)
      have HGO := Lib.hid (show ∀ i : Nat, i < f0.length → ((i : Int) ≠ n1 ∨ E ≠ 0) → nthS G i = nthS f0 i from fun i _ h => by rw [hG]; exact Fl.write_other' h hE)
      have HEH := Lib.hid (show (E == 0) = (decide (0 ≤ n1) && decide (n1 < (f0.length : Int))) by rw [hE]; exact Fl.writeE_has _ _ (Fl.full_size n2))
      clear hG hE hbc VFs hpF hpG
      obtain ⟨AO, cO, rfl, hOn, hOm⟩ := hO.form
      obtain ⟨A2, c2, rfl, hGn, hGm⟩ := VG.strs.form
      rw [hGl] at hGn
      rw [hGl] at VG
      unfold maxLen at hOm hGm
      have cF := VF.cell
      have cG := VG.cell
      go_wp2_with fail
      refine (valid_any _ _ _ (show RStrs w4 w4.heap.size (.slice A2 f0.length c2) G from VG.strs)).mono ?_
      rintro e w5 ⟨rfl, hb5⟩
      rw [HGV.out]
      have VF := VF.below hb5
      have VG := VG.below hb5
      have hO := (hO.below hb5).more hb5.size
      have HB := HB.trans (hb5.mono HB.size)
      have cF := VF.cell
      have cG := VG.cell
      clear hb5
      have J0 := Lib.hid (And.intro VF (And.intro VG (And.intro hO HB)))
      clear VF VG hO HB cF cG
      go_wp2_with fail
      go_loopw [11] (fun i wr => ∃ j : Nat, j ≤ f0.length ∧ i = .int .i64 j ∧ Below w5.heap.size w5 wr) (fun i _ => f0.length - (intOf i).toNat)
      case atStart => exact ⟨0, Nat.zero_le _, rfl, Below.refl _ _⟩
      case round =>
        obtain ⟨j, hj, rfl, hbw⟩ := hrel
        obtain ⟨VF, VG, hO, HB⟩ := J0.out
        by_cases hlt : j < f0.length
        · have hI0 : (0 : Int) ≤ (j : Int) := by omega
          have hI1 : (j : Int) < (f0.length : Int) := by omega
          have cF := (VF.below hbw).cell
          have cG := (VG.below hbw).cell
          obtain ⟨bf, of_, ef, hbf, hcf, hsf⟩ := VF.strs.at_ hlt
          obtain ⟨bo, oo, eo, hbo, hco, hso⟩ := hO.at_ hlt
          obtain ⟨bg, og, eg, hbg, hcg, hsg⟩ := RStrs.at_ (k := j) VG.strs (by rw [hGl]; exact hlt)
          have qf := (hbw.cell (p := ⟨bf, of_ + j, none⟩) hbf).trans hcf
          have qo := (hbw.cell (p := ⟨bo, oo + j, none⟩) hbo).trans hco
          have qg := (hbw.cell (p := ⟨bg, og + j, none⟩) hbg).trans hcg
          subst eo eg
          cases ef
          have hGj := HGO.out j hlt
          clear J0 VF VG hO HB hcf hco hcg
          by_cases hn : (j : Int) = n1
          · have d0 : ((j : Int) != n1) = false := by simp [hn]
            by_cases hE0 : E = 0
            · have dE : (E != 0) = false := by simp [hE0]
              clear hn hGj qg
              go_wp2
              go_quiet (fail)
              go_wp2
              go_roundw
              case rel => exact ⟨j + 1, by omega, by go_num, below_drewN hbw _⟩
              case measure => simp [intOf]; omega
            · have dE : (E != 0) = true := by simp [hE0]
              rw [hGj (.inr hE0)] at qg
              clear hn hGj
              go_wp2
              go_quiet (fail)
              go_wp2
              go_roundw
              case rel => exact ⟨j + 1, by omega, by go_num, below_drewN hbw _⟩
              case measure => simp [intOf]; omega
          · have d0 : ((j : Int) != n1) = true := by simp [hn]
            rw [hGj (.inl hn)] at qg
            clear hGj
            go_wp2
            go_quiet (fail)
            go_wp2
            go_roundw
            case rel => exact ⟨j + 1, by omega, by go_num, below_drewN hbw _⟩
            case measure => simp [intOf]; omega
        · obtain rfl : j = f0.length := by omega
          have HB := HB.trans (hbw.mono HB.size)
          have hEH := HEH.out
          clear J0 VF VG hO
          by_cases h0 : 0 ≤ n1
          · have d0 : decide (0 ≤ n1) = true := by simp [h0]
            by_cases h1 : n1 < (f0.length : Int)
            · have d1 : decide (n1 < (f0.length : Int)) = true := by simp [h1]
              rw [d0, d1] at hEH
              have eE : (E == 0) = true := by simpa using hEH
              clear hEH
              go_wp2
              go_ret
              exact ⟨rfl, HB⟩
            · have d1 : decide (n1 < (f0.length : Int)) = false := by simp [h1]
              rw [d0, d1] at hEH
              have eE : (E == 0) = false := by simpa using hEH
              clear hEH
              go_wp2
              go_ret
              exact ⟨rfl, HB⟩
          · have d0 : decide (0 ≤ n1) = false := by simp [h0]
            rw [d0] at hEH
            have eE : (E == 0) = false := by simpa using hEH
            clear hEH
            go_wp2
            go_ret
            exact ⟨rfl, HB⟩

set_option maxRecDepth 100000 in
set_option maxHeartbeats 8000000 in
theorem lawOneNil {w : World} (n1 n2 n3 : Int) (hf : RStrs w w.heap.size (.slice none 0 0) []) :
    Calls Try.prog 4 #[.agg #[.slice none 0 0, .int .i64 n1, .int .u8 n2, .int .i64 n3]] w fun e w' => e = .returned (.bool true) ∧ Below w.heap.size w w' := by
  have hV : Fl.valid [] = true := by decide
  have HV := Lib.hid hV
  clear hV
  have HB : Below w.heap.size w ((w.alloc (.cells #[.slice none 0 0, .int .i64 n1, .int .u8 n2, .int .i64 n3] 38)).alloc (.cells #[.slice none 0 0] 24)) := ((Below.refl _ _).alloc (Nat.le_refl _) _).alloc (by simp) _
  have VF : SAt ((w.alloc (.cells #[.slice none 0 0, .int .i64 n1, .int .u8 n2, .int .i64 n3] 38)).alloc (.cells #[.slice none 0 0] 24)) (w.heap.size + 1) (.slice none 0 0) [] := ⟨heap_second' _ _ _, (hf.below HB).more HB.size⟩
  go_enter Try.func4, Try.ntmps4
  go_wp2_with fail
  refine (sanity_any _).mono ?_
  rintro e w1 ⟨rfl, hb1⟩
  have VF := VF.below hb1
  have HB := HB.trans (hb1.mono HB.size)
  have cF := VF.cell
  clear hb1
  go_wp2_with fail
  refine (rvalid_any _ _ _ VF.strs).mono ?_
  rintro e w2 ⟨rfl, hb2⟩
  rw [HV.out]
  have VF := VF.below hb2
  have HB := HB.trans (hb2.mono HB.size)
  have cF := VF.cell
  clear hb2
  have hpL := lt_of_block VF.blk
  obtain ⟨i0, hi0, hz0, hz1, hz2⟩ := info_parts infoStr
  go_wp2_with (at_builtin; refine wpList_append_own_none rfl _ _ 22 rfl w2.heap.size 9 i0 1 Try.underlying22 hi0 (.slice (some ⟨w2.heap.size, 0, none⟩) 0 0) 0 _ (by rfl) (World.ownsRow_lit w2 #[] 0 (Nat.le_refl _) (by simp [maxLen]) (by simp)) (by rfl) ?_)
  have VF := VF.below (Below.new (.cells #[] 9))
  have HB := HB.alloc HB.size (.cells #[] 9)
  have cF := VF.cell
  obtain ⟨w3, hw3⟩ : ∃ W, W = w2.alloc (.cells #[] 9) := ⟨_, rfl⟩
  rw [← hw3] at VF HB cF
  rw [← hw3]
  clear hw3 hpL
  have VFs := VF.strs
  have hpF := lt_of_block VF.blk
  have hU0 : Under (w3) (w3.heap.size) (w3) := ⟨by simpa using Below.refl _ _, by simp⟩
  go_cut [9, 10] (fun a b wc => Wrote (w3) (w3.heap.size) ([]) a wc ∧ b = .int .i64 (13))
  case first =>
    go_region_held3 (fun W' => W'.cell? ⟨(w.heap.size + 1), 0, none⟩ = some (.slice none 0 0) ∧ Under (w3) (w3.heap.size) W') (first | assumption | exact ⟨Under.cell hU0.drew cF hpF, hU0.drew⟩ | exact ⟨Under.cell hU cF hpF, hU⟩ | (go_split_ands; exact ⟨Under.cell (Under.alloc (by assumption) _) cF hpF, (Under.alloc (by assumption) _)⟩) | (go_split_ands; exact ⟨Under.cell (Under.setCell (by assumption) (Nat.le_refl _) _) cF hpF, (Under.setCell (by assumption) (Nat.le_refl _) _)⟩) | (go_split_ands; exact ⟨Under.cell (Under.setCell (by assumption) hB6 _) cF hpF, (Under.setCell (by assumption) hB6 _)⟩)) (first
        | (go_at_call 21; (with_reducible refine (full_any (n2) _).mono ?_); rintro e w6 ⟨rfl, hb6⟩; go_split_ands; obtain ⟨hk1, hk2⟩ := bcell hb6; (try simp only [World.size_alloc, World.size_drew] at hk1 hk2); have hz6 := hb6.size; (try simp at hz6); (first | have hy6 := Nat.lt_of_succ_le hz6 | skip); have hU := Under.below (by assumption) hb6; have hB6 := hU.le)
        | (go_at_call 15; go_split_ands; (with_reducible refine (write_any _ ([]) n1 (Fl.full (n2)) (n3) _ (Under.strs (Ws := w3) (B := w3.heap.size) (by assumption) VFs) (by decide) (by rw [Fl.full_size]; decide)).mono ?_); rintro e w7 HW; unfold WriteApart at HW; obtain ⟨v', rfl, hs7, hb7, ha7⟩ := HW; rw [Fl.writeE_nil]; rw [Fl.write_nil] at hs7; obtain ⟨A2, c2, rfl, _, _⟩ := hs7.form; obtain ⟨hk3, hk4⟩ := bcell hb7; (try simp only [World.size_alloc, World.size_drew] at hk3 hk4); have hz7 := hb7.size; have hU2 := Under.here (by assumption) hb7; have hU := Under.below (by assumption) hb7))
    all_goals
      go_wp2_with fail
      go_meet
      first
        | exact ⟨wrote_new hU hs7, rfl⟩
        | exact ⟨wrote_old hU hU2 VFs hs7 ha7 hb7 hB6 (heap_alloc_new _ _), rfl⟩
        | exact ⟨wrote_old hU hU2 VFs hs7 ha7 hb7 (Nat.le_refl _) ((hb6.block _ (by simp)).trans (heap_second' _ _ _)), rfl⟩
        | exact ⟨wrote_old hU hU2 VFs hs7 ha7 hb7 (Nat.le_refl _) ((hb6.block _ (by simp)).trans (heap_alloc_new _ _)), rfl⟩
  case rest =>
    obtain ⟨⟨pG, vG, rfl, VG, hpG, hbc⟩, rfl⟩ := hcut
    rename World => w4
    have HB := HB.trans (hbc.mono HB.size)
    obtain ⟨A2, c2, rfl, hGn, hGm⟩ := VG.strs.form
    unfold maxLen at hGm
    have cG := VG.cell
    clear hbc VFs hpF hpG
    go_wp2_with fail
    refine (valid_any _ _ _ VG.strs).mono ?_
    rintro e w5 ⟨rfl, hb5⟩
    rw [HV.out]
    have HB := HB.trans (hb5.mono HB.size)
    go_wp2_with fail
    go_loopw [11] (fun i wr => i = .int .i64 0 ∧ wr = w5) (fun _ _ => 0)
    case atStart => exact ⟨rfl, rfl⟩
    case round =>
      obtain ⟨rfl, rfl⟩ := hrel
      by_cases hs : 0 ≤ n1
      · have d0 : decide (0 ≤ n1) = true := by simp [hs]
        have d1 : decide (n1 < 0) = false := by simp [hs]
        go_wp2
        go_ret
        exact ⟨rfl, HB⟩
      · have d0 : decide (0 ≤ n1) = false := by simp [hs]
        go_wp2
        go_ret
        exact ⟨rfl, HB⟩

theorem lawOne {w : World} (v0 : Value) (f0 : List ByteArray) (n1 n2 n3 : Int) (hP : RStrsN w w.heap.size v0 f0 ∧ (Lit.int .i64 n1).wf = true ∧ (Lit.int .u8 n2).wf = true ∧ (Lit.int .i64 n3).wf = true) :
    Calls Try.prog 4 #[.agg #[v0, .int .i64 n1, .int .u8 n2, .int .i64 n3]] w fun e w' => e = .returned (.bool true) ∧ Below w.heap.size w w' := by
  obtain ⟨⟨hf, hN⟩, -⟩ := hP
  obtain ⟨A, c, rfl, hnc, hcm⟩ := hf.form
  cases A with
  | none =>
    obtain rfl : c = 0 := hN _ _ rfl
    obtain rfl : f0 = [] := by
      refine List.eq_nil_of_length_eq_zero (Nat.eq_zero_of_not_pos fun h => ?_)
      obtain ⟨_, _, e, _⟩ := hf.at_ h
      cases e
    exact lawOneNil n1 n2 n3 hf
  | some ad => exact lawOneSome ad c f0 n1 n2 n3 hf


namespace lawOneC
set_option maxRecDepth 100000 in
theorem lifted (os : Os) (started : os.Started) (H : Type) (enc : TypeId × Value → H) :
    ReturnsInHanded {} Try.checked os 4 .any (Rows.flashWritesOneSectorSpec.pre6 enc Try.prog Try.f4 Rows.flashWritesOneSectorRow.domain false) (Rows.flashWritesOneSectorSpec.post enc Try.prog Try.f4 false true false false) := by
  refine returnsInHanded_of_change (C := Try.checked) own started (by kernel_rfl) Try.func4
    (ChangeSpec.witness6 (enc := enc) (C := Try.checked) false ⟨#[], #[.agg #[.slice none 0 0, .int .i64 0, .int .u8 0, .int .i64 0]], []⟩ 8 (by kernel_rfl) (by kernel_rfl) (by kernel_rfl) (by kernel_rfl)) ?_
  intro W base args ds gs before hval0 hW hcnd _
  have hval : ∀ (j : Nat) t v, Try.f4.params[j]? = some t → args[j]? = some v → Value.okWide Try.prog W .any base t v := hval0
  have hW' := hW
  obtain ⟨p, q, hA0, hV, rfl, hfz, hnd⟩ := hW
  have hA : DataW.TrodAll enc Try.prog W 0 (fun _ => true) true Try.f4.params.toList args.toList ds p := hA0
  rw [Try.params4] at hA hval
  obtain ⟨v0, vs0, d0, ds0, p0, q0, hargs, rfl, rfl, h0, r0⟩ := trodAll_cons hA
  obtain ⟨rfl, rfl, rfl⟩ := trodAll_nil r0
  obtain rfl : args = #[v0] := by cases args; simp_all
  obtain ⟨rfl, rfl⟩ := trodVars_none hV
  have k0 := h0
  have lt0 : ∀ x ∈ p0, x.block < W.heap.size := by obtain ⟨m, hm⟩ := k0; exact DataW.trod_lt m _ _ _ hm
  obtain ⟨cs0, rfl, _⟩ := okWide_struct Try.underlying38 (hval 0 38 v0 rfl rfl)
  obtain ⟨z0v0, z0f0, z0n1, z0n2, z0n3, e0, s0⟩ : ∃ (z0v0 : Value) (z0f0 : List ByteArray) (z0n1 : Int) (z0n2 : Int) (z0n3 : Int), (Value.agg cs0).cells.toList = [z0v0, .int .i64 z0n1, .int .u8 z0n2, .int .i64 z0n3] ∧ RStrsN W W.heap.size z0v0 z0f0 ∧ (Lit.int .i64 z0n1).wf = true ∧ (Lit.int .u8 z0n2).wf = true ∧ (Lit.int .i64 z0n3).wf = true := by obtain ⟨fuel, hf⟩ := h0; exact reads_OneIn hf
  obtain rfl : cs0 = #[z0v0, .int .i64 z0n1, .int .u8 z0n2, .int .i64 z0n3] := by cases cs0; simpa [Value.cells] using e0
  clear hA0 hval0
  refine (lawOne (w := W) z0v0 z0f0 z0n1 z0n2 z0n3 s0 ).mono fun e W' ⟨he, bel⟩ => ?_
  subst he
  exact ⟨_, rfl, _, _, _, [], _, [], hW', trodAll_mk1 (shut_bool Try.underlying4 _), (trodAll_cons_mk (Below.trod laidOut (by kernel_rfl) (of_decide_eq_true (by kernel_rfl)) k0 bel lt0) trodAll_mk0), rfl, bel.frame _, fun h => by cases h⟩

theorem over : Rows.flashWritesOneSectorRow.holds Try.pinned (OpenSpec.ofChange Rows.flashWritesOneSectorSpec) :=
  OpenClaim.holds_of_wide 4 Try.f4 rfl rfl rfl rfl rfl rfl rfl ⟨rfl, rfl, rfl, rfl, rfl⟩ rfl rfl rfl rfl rfl (by kernel_rfl) Try.func4 (by kernel_rfl)
    (of_decide_eq_true (by kernel_rfl)) (by unfold Func.isWrapper; first | (rw [if_pos (by decide +kernel)]; kernel_rfl) | (rw [if_neg (by decide +kernel)]; exact ⟨rfl, rfl⟩))
    (fun os started H enc _ => lifted os started H enc)
end lawOneC

theorem flashWritesOneSector_holds : Rows.FlashWritesOneSectorSaid := lawOneC.over

end Go.Proofs.Ytnmleaibonnbnaa
