/- FlashReadsLastWrite: for all numbers and lists of bytes the law returns true, and what it was handed reads as it did. No conditions. -/
import Derived.Test.YtnmleaibonnbnaaFlOpen
namespace Go.Proofs.Ytnmleaibonnbnaa
open Go.ChangeShapes Go.WideShapes Go.ChangeAt Go.RowKit Go.Deep

theorem Under.cellAt {Ws W : World} {B b o : Nat} {v : Value} (h : Under Ws B W) (c : Ws.cell? ⟨b, o, none⟩ = some v) (hb : b < B) : W.cell? ⟨b, o, none⟩ = some v := (h.keeps.cell (p := ⟨b, o, none⟩) hb).trans c
/-- a variable's cell is written that holds no string -/
theorem strs_setCell {W : World} {B : Nat} {v u0 : Value} {g : List ByteArray} {a : Addr} (h : RStrs W B v g) (ha : W.cell? a = some u0) (hu : ∀ s, u0 ≠ .string s) (u : Value) : RStrs (W.setCell a u) B v g := by
  obtain ⟨A, c, rfl, hn, hc, hs, hcells⟩ := h
  refine ⟨A, c, rfl, hn, hc, hs, fun hpos => ?_⟩
  obtain ⟨b, o, rfl, hb, hcl⟩ := hcells hpos
  refine ⟨b, o, rfl, hb, fun i hi => ?_⟩
  have h1 := hcl i hi
  refine (World.cell?_setCell_other W a ⟨b, o + i, none⟩ u (fun e => ?_)).trans h1
  rw [e] at ha
  rw [ha] at h1
  injection h1 with h2
  exact hu _ h2
namespace Fl
/-- sectors, each of one byte -/
def fulls (ws : List Nat) : List ByteArray := ws.map fun x => full (x : Nat)
theorem fulls_length (ws : List Nat) : (fulls ws).length = ws.length := by simp [fulls]
theorem fulls_at {ws : List Nat} {k : Nat} (hk : k < ws.length) : nthS (fulls ws) k = full (nth ws k : Nat) := by simp [fulls, nthS, nth, hk]
theorem fulls_new {n : Nat} (h : n ≤ 128) : newF n = fulls (List.replicate n 0) := by rw [(new_yes h).1]; simp [fulls]
theorem write_fulls {ws : List Nat} {k : Nat} (x : Nat) (hk : k < ws.length) : write (fulls ws) k (full (x : Nat)) (-1) = fulls (ws.set k x) := by
  rw [write_yes_eq (-1) (by rw [fulls_length]; exact hk) (full_size _)]
  have : merge (nthS (fulls ws) k) (full (x : Nat)) (-1) = full (x : Nat) := by unfold merge; rw [if_pos (by omega)]
  rw [this]
  simp [fulls, List.map_set]
theorem read_fulls {ws : List Nat} {k : Nat} (hk : k < ws.length) : readV (fulls ws) k = full (nth ws k : Nat) ∧ readE (fulls ws) k = 0 := by
  have hx : has (fulls ws) k = true := by simp [has, fulls_length, hk]
  constructor
  · simp only [readV, hx, if_true, Int.toNat_natCast, fulls_at hk]
  · simp [readE, hx]
end Fl
/-- the bytes as cells -/
def wcells (ws : List Nat) : Array Value := (ws.map fun x => Value.int .u8 (x : Nat)).toArray
theorem wcells_new (n : Nat) : zrow n = wcells (List.replicate n 0) := by
  apply Array.toList_inj.1
  rw [zrow_list]
  simp [wcells]
theorem wcells_at {W : World} {p k : Nat} {ws : List Nat} (h : W.heap[p]? = some (.cells (wcells ws) 5 (0, 0))) (hk : k < ws.length) : W.cell? ⟨p, k, none⟩ = some (.int .u8 (nth ws k : Nat)) := by
  simp [World.cell?, h, wcells, nth, hk]
theorem wcells_free {W : World} {p k : Nat} {ws : List Nat} (h : W.heap[p]? = some (.cells (wcells ws) 5 (0, 0))) : W.frozen? ⟨p, k, none⟩ = false := by
  simp [World.frozen?, h]

/-- The loop's state: the flash memory at block p, the wanted bytes at block q. -/
structure LastInv (w : World) (N p q : Nat) (W : World) (v : Value) (ws : List Nat) : Prop where
  len : ws.length = N
  small : ∀ x ∈ ws, x < 256
  at_ : SAt W p v (Fl.fulls ws)
  want : W.heap[q]? = some (.cells (wcells ws) 5 (0, 0))
  ne : p ≠ q
  lp : w.heap.size ≤ p
  lq : w.heap.size ≤ q
  far : Below w.heap.size w W
theorem LastInv.below {w W W' : World} {N p q : Nat} {v : Value} {ws : List Nat} (h : LastInv w N p q W v ws) (hb : Below W.heap.size W W') : LastInv w N p q W' v ws :=
  ⟨h.len, h.small, h.at_.below hb, (hb.block q (lt_of_block h.want)).trans h.want, h.ne, h.lp, h.lq, h.far.trans (hb.mono h.far.size)⟩
theorem LastInv.next {w W : World} {N p q k x : Nat} {A : Option Addr} {n c : Nat} {v' : Value} {ws : List Nat} {pg : Nat} (h : LastInv w N p q W (.slice A n c) ws) (hk : k < N) (hx : x < 256)
    (hg : SAt W pg v' (Fl.fulls (ws.set k x))) : LastInv w N p q ((W.setCell ⟨p, 0, none⟩ v').setCell ⟨q, k, none⟩ (.int .u8 (x : Nat))) v' (ws.set k x) := by
  have hlen : k < ws.length := by rw [h.len]; exact hk
  have s1 := strs_setCell (u := v') hg.strs h.at_.cell (fun s e => by cases e) 
  have w1 : (W.setCell ⟨p, 0, none⟩ v').heap[q]? = some (.cells (wcells ws) 5 (0, 0)) := (heap_setCell_other W ⟨p, 0, none⟩ q v' (fun e => h.ne e.symm)).trans h.want
  have c1 := wcells_at w1 hlen
  have s2 := strs_setCell (u := .int .u8 (x : Nat)) s1 c1 (fun s e => by cases e)
  refine ⟨by simpa using h.len, ?_, ⟨?_, s2.more (by simp)⟩, ?_, h.ne, h.lp, h.lq, (h.far.setCell (p := ⟨p, 0, none⟩) h.lp _).setCell (p := ⟨q, k, none⟩) h.lq _⟩
  · intro y hy
    rcases List.mem_or_eq_of_mem_set hy with hy | rfl
    · exact h.small y hy
    · exact hx
  · exact (heap_setCell_other _ ⟨q, k, none⟩ p _ (fun e => h.ne e)).trans (one_setCell h.at_.blk)
  · rw [heap_setCell_same _ q k _ _ _ w1]
    congr 2
    apply Array.toList_inj.1
    simp [wcells, List.map_set]

set_option maxRecDepth 100000 in
set_option maxHeartbeats 8000000 in
theorem lawLast {w : World} (n0 : Int) (v1 : Value) (xs : List Nat) (hx : RBytes w w.heap.size v1 xs) (hn0 : (Lit.int .u8 n0).wf = true) :
    Calls Try.prog 6 #[.int .u8 n0, v1] w fun e w' => e = .returned (.bool true) ∧ Below w.heap.size w w' := by
  have hw0 : 0 ≤ n0 ∧ n0 ≤ 255 := by simpa [Lit.wf, IntKind.min, IntKind.max, IntKind.signed, IntKind.bits] using hn0
  obtain ⟨m, rfl⟩ := Int.eq_ofNat_of_zero_le hw0.1
  obtain ⟨A, c, rfl, hnc, hcm, h256, hcells⟩ := id hx
  unfold maxLen at hcm
  have hm : m ≤ 255 := by omega
  clear hn0 hw0
  by_cases h40 : xs.length ≤ 40
  · have e40 : decide ((40 : Int) < (xs.length : Int)) = false := by simp; omega
    have e41 : decide (40 < xs.length) = false := by simp; omega
    have hN : (1 + (m : Int) % 8) = ((1 + m % 8 : Nat) : Int) := by omega
    have hN8 : 1 + m % 8 ≤ 8 := by omega
    have hN1 : 1 ≤ 1 + m % 8 := by omega
    generalize 1 + m % 8 = N at hN hN8 hN1
    have HN := Lib.hid hN
    clear hN
    go_enter Try.func6, Try.ntmps6
    go_wp2_with fail
    refine (sanity_any _).mono ?_
    rintro e w1 ⟨rfl, hb1⟩
    have HX := (hx.below hb1).more hb1.size
    go_wp2_with fail
    rw [HN.out]
    refine (new_any N _).mono ?_
    rintro e w2 ⟨vf, rfl, hf, hb2⟩
    rw [(Fl.new_yes (n := N) (by omega)).2]
    rw [Fl.fulls_new (by omega)] at hf
    obtain ⟨A2, c2, rfl, _, _⟩ := hf.form
    have VF := SAt.new hf
    have hfl : (Fl.fulls (List.replicate N 0)).length = N := by simp [Fl.fulls_length]
    have HB := (hb1.trans (hb2.mono hb1.size)).alloc (hb1.trans (hb2.mono hb1.size)).size (.cells #[.slice A2 (Fl.fulls (List.replicate N 0)).length c2] 24)
    have hz2 := (hb1.trans (hb2.mono hb1.size)).size
    have hmk := make_u8 N (by omega) N rfl
    clear hb1 hb2 HX hf
    rw [hfl] at VF HB
    rw [hfl]
    clear hfl
    go_wp2_with fail
    have I0 : LastInv w N w2.heap.size (w2.heap.size + 1) ((w2.alloc (.cells #[.slice A2 N c2] 24)).alloc (.cells (zrow N) 5)) (.slice A2 N c2) (List.replicate N 0) :=
      ⟨by simp, by intro x h; rw [(List.mem_replicate.1 h).2]; decide, VF.below (Below.new _), by rw [wcells_new]; exact heap_second' _ _ _, by omega, hz2, by omega, HB.trans ((Below.new _).mono HB.size)⟩
    obtain ⟨pF, hpF⟩ : ∃ p, p = w2.heap.size := ⟨_, rfl⟩
    obtain ⟨pW, hpW⟩ : ∃ p, p = w2.heap.size + 1 := ⟨_, rfl⟩
    obtain ⟨W3, hW3⟩ : ∃ W, W = (w2.alloc (.cells #[.slice A2 N c2] 24)).alloc (.cells (zrow N) 5) := ⟨_, rfl⟩
    rw [← hW3, ← hpW, ← hpF] at I0
    rw [← hW3, ← hpW, ← hpF]
    have J0 := Lib.hid I0
    clear hW3 hpW hpF VF HB hz2 hmk I0
    go_loopw [10] (fun i wr => ∃ (j : Nat) (A3 : Option Addr) (c3 : Nat) (ws : List Nat), j ≤ xs.length ∧ i = .int .i64 j ∧ Hid (LastInv w N pF pW wr (.slice A3 N c3) ws)) (fun i _ => xs.length - (intOf i).toNat)
    case atStart => exact ⟨0, A2, c2, List.replicate N 0, Nat.zero_le _, rfl, J0⟩
    case round =>
      clear J0
      obtain ⟨j, A3, c3, ws, hj, rfl, HI⟩ := hrel
      have cF := HI.out.at_.cell
      have fF := free_of_one HI.out.at_.blk
      by_cases hlt : j < xs.length
      · obtain ⟨bl, ol, rfl, hbl, hc⟩ := hcells (by omega)
        have cL : wr.cell? ⟨bl, ol + j, none⟩ = some (.int .u8 (nth xs j : Nat)) := (HI.out.far.cell (p := ⟨bl, ol + j, none⟩) hbl).trans (hc j hlt)
        have hxm : nth xs j < 256 := by
          refine h256 _ ?_
          simp only [nth, List.getD_eq_getElem?_getD, List.getElem?_eq_getElem hlt, Option.getD_some]
          exact List.getElem_mem hlt
        obtain ⟨x, hxx⟩ : ∃ x, x = nth xs j := ⟨_, rfl⟩
        rw [← hxx] at cL hxm
        clear hxx hc
        go_wp2_with fail
        have hk : ((x : Int) % (N : Int)) = ((x % N : Nat) : Int) := by simp
        have hkl : x % N < N := Nat.mod_lt _ (by omega)
        generalize x % N = k at hk hkl
        rw [hk]
        clear hk
        have hlws := HI.out.len
        have hkk := Lib.hid (show k < (Fl.fulls ws).length by rw [Fl.fulls_length, hlws]; exact hkl)
        have hbs := Lib.hid (Fl.full_size (x : Nat))
        have hlen0 : (Fl.fulls ws).length ≤ 1000 := by rw [Fl.fulls_length, hlws]; omega
        have hzw := HI.out.far.size
        have VFs : RStrs wr wr.heap.size (.slice A3 N c3) (Fl.fulls ws) := HI.out.at_.strs
        have hpF := lt_of_block HI.out.at_.blk
        have hblw : bl < wr.heap.size := by omega
        clear hlws
        have hU0 : Under (wr) (wr.heap.size) (wr) := ⟨by simpa using Below.refl _ _, by simp⟩
        go_cut [12, 13] (fun a b wc => Wrote (wr) (wr.heap.size) (Fl.write (Fl.fulls ws) k (Fl.full (x : Nat)) (-1)) a wc ∧ b = .int .i64 (0))
        case first =>
          go_region_held3 (fun W' => W'.cell? ⟨pF, 0, none⟩ = some (.slice A3 N c3) ∧ W'.cell? ⟨bl, ol + j, none⟩ = some (.int .u8 (x : Nat)) ∧ Under (wr) (wr.heap.size) W') (first | assumption | exact ⟨Under.cell hU0.drew cF hpF, Under.cellAt hU0.drew cL hblw, hU0.drew⟩ | exact ⟨Under.cell hU cF hpF, Under.cellAt hU cL hblw, hU⟩ | (go_split_ands; exact ⟨Under.cell (Under.alloc (by assumption) _) cF hpF, Under.cellAt (Under.alloc (by assumption) _) cL hblw, (Under.alloc (by assumption) _)⟩) | (go_split_ands; exact ⟨Under.cell (Under.setCell (by assumption) (Nat.le_refl _) _) cF hpF, Under.cellAt (Under.setCell (by assumption) (Nat.le_refl _) _) cL hblw, (Under.setCell (by assumption) (Nat.le_refl _) _)⟩) | (go_split_ands; exact ⟨Under.cell (Under.setCell (by assumption) hB6 _) cF hpF, Under.cellAt (Under.setCell (by assumption) hB6 _) cL hblw, (Under.setCell (by assumption) hB6 _)⟩)) (first
                    | (go_at_call 21; (with_reducible refine (full_any ((x : Nat)) _).mono ?_); rintro e w6 ⟨rfl, hb6⟩; go_split_ands; obtain ⟨hk1, hk2⟩ := bcell hb6; (try simp only [World.size_alloc, World.size_drew] at hk1 hk2); have hz6 := hb6.size; (try simp at hz6); (first | have hy6 := Nat.lt_of_succ_le hz6 | skip); have hU := Under.below (by assumption) hb6; have hB6 := hU.le)
                    | (go_at_call 15; go_split_ands; (with_reducible refine (write_any _ (Fl.fulls ws) k (Fl.full ((x : Nat))) (-1) _ (Under.strs (Ws := wr) (B := wr.heap.size) (by assumption) VFs) hlen0 (by rw [Fl.full_size]; decide)).mono ?_); rintro e w7 HW; unfold WriteApart at HW; obtain ⟨v', rfl, hs7, hb7, ha7⟩ := HW; rw [Fl.writeE_yes (f := Fl.fulls ws) hkk.out hbs.out]; obtain ⟨A2, c2, rfl, _, _⟩ := hs7.form; obtain ⟨hk3, hk4⟩ := bcell hb7; (try simp only [World.size_alloc, World.size_drew] at hk3 hk4); have hz7 := hb7.size; have hU2 := Under.here (by assumption) hb7; have hU := Under.below (by assumption) hb7))
          all_goals
            go_wp2_with fail
            go_meet
            first
              | exact ⟨wrote_new hU hs7, rfl⟩
              | exact ⟨wrote_old hU hU2 VFs hs7 ha7 hb7 hB6 (heap_alloc_new _ _), rfl⟩
              | exact ⟨wrote_old hU hU2 VFs hs7 ha7 hb7 (Nat.le_refl _) ((hb6.block _ (by simp)).trans (heap_second' _ _ _)), rfl⟩
              | exact ⟨wrote_old hU hU2 VFs hs7 ha7 hb7 (Nat.le_refl _) ((hb6.block _ (by simp)).trans (heap_alloc_new _ _)), rfl⟩
        case rest =>
          obtain ⟨⟨pG, vG, rfl, VG, hpG, hbc⟩, rfl⟩ := hcut
          rename World => w4
          have hlws := HI.out.len
          rw [Fl.write_fulls x (by rw [hlws]; exact hkl)] at VG
          have HI2 := HI.out.below hbc
          have HN := Lib.hid (HI2.next hkl hxm VG)
          obtain ⟨A4, c4, rfl, _, _⟩ := VG.strs.form
          have hl4 : (Fl.fulls (ws.set k x)).length = N := by simp [Fl.fulls_length, hlws]
          rw [hl4] at HN VG
          have cF := HI2.at_.cell
          have fF := free_of_one HI2.at_.blk
          have cG := VG.cell
          have cL := (hbc.cell (p := ⟨bl, ol + j, none⟩) hblw).trans cL
          have cW := wcells_at HI2.want (k := k) (by rw [hlws]; exact hkl)
          have fW := wcells_free HI2.want (k := k)
          have n1 := HI2.ne
          have n2 : pW ≠ pF := fun e => HI2.ne e.symm
          have n3 : bl ≠ pF := by have := HI2.lp; omega
          have n4 : pF ≠ bl := fun e => n3 e.symm
          clear hbc VFs hpF hpG HI2 HI hlws hl4 VG
          go_wp2
          go_roundw
          case rel => exact ⟨j + 1, A4, c4, ws.set k x, by omega, by go_num, HN⟩
          case measure => simp [intOf]; omega
      · obtain rfl : j = xs.length := by omega
        have J1 := HI
        clear HI cF fF
        go_wp2
        go_loopw [14] (fun i w5 => ∃ j : Nat, j ≤ N ∧ i = .int .i64 j ∧ Below wr.heap.size wr w5) (fun i _ => N - (intOf i).toNat)
        case atStart => exact ⟨0, Nat.zero_le _, rfl, Below.refl _ _⟩
        case round =>
          obtain ⟨j, hj, rfl, hbw⟩ := hrel
          have HI := J1.out.below hbw
          have hlws := HI.len
          have cF := HI.at_.cell
          by_cases hlt : j < N
          · have hR := Fl.read_fulls (ws := ws) (k := j) (by rw [hlws]; exact hlt)
            have hR1 := Lib.hid hR.1
            have hR2 := Lib.hid hR.2
            have HIh := Lib.hid HI
            clear hR HI hlws
            go_wp2_with fail
            refine (read_any _ _ _ _ HIh.out.at_.strs).mono ?_
            rintro e w6 ⟨rfl, hb6⟩
            rw [hR1.out, hR2.out]
            have hbw := hbw.trans (hb6.mono hbw.size)
            have cW := wcells_at (HIh.out.below hb6).want (k := j) (by rw [HIh.out.len]; exact hlt)
            clear hb6 cF
            go_wp2_with fail
            refine (full_any _ _).mono ?_
            rintro e w7 ⟨rfl, hb7⟩
            have hbw := hbw.trans (hb7.mono hbw.size)
            clear hb7 cW
            go_wp2
            go_roundw
            case rel => exact ⟨j + 1, by omega, by go_num, hbw⟩
            case measure => simp [intOf]; omega
          · have HB := HI.far
            clear HI hlws cF
            go_wp2
            go_ret
            exact ⟨rfl, HB⟩
  · have e40 : decide ((40 : Int) < (xs.length : Int)) = true := by simp; omega
    have e41 : decide (40 < xs.length) = true := by simp; omega
    go_enter Try.func6, Try.ntmps6
    go_wp2_with fail
    refine (sanity_any _).mono ?_
    rintro e w1 ⟨rfl, hb1⟩
    have HX := (hx.below hb1).more hb1.size
    go_wp2
    go_ret
    exact ⟨rfl, hb1⟩


namespace lawLastC
set_option maxRecDepth 100000 in
theorem lifted (os : Os) (started : os.Started) (H : Type) (enc : TypeId × Value → H) :
    ReturnsInHanded {} Try.checked os 6 .any (Rows.flashReadsLastWriteSpec.pre6 enc Try.prog Try.f6 Rows.flashReadsLastWriteRow.domain false) (Rows.flashReadsLastWriteSpec.post enc Try.prog Try.f6 false true false false) := by
  refine returnsInHanded_of_change (C := Try.checked) own started (by kernel_rfl) Try.func6
    (ChangeSpec.witness6 (enc := enc) (C := Try.checked) false ⟨#[], #[.int .u8 0, .slice none 0 0], []⟩ 8 (by kernel_rfl) (by kernel_rfl) (by kernel_rfl) (by kernel_rfl)) ?_
  intro W base args ds gs before hval0 hW hcnd _
  have hval : ∀ (j : Nat) t v, Try.f6.params[j]? = some t → args[j]? = some v → Value.okWide Try.prog W .any base t v := hval0
  have hW' := hW
  obtain ⟨p, q, hA0, hV, rfl, hfz, hnd⟩ := hW
  have hA : DataW.TrodAll enc Try.prog W 0 (fun _ => true) true Try.f6.params.toList args.toList ds p := hA0
  rw [Try.params6] at hA hval
  obtain ⟨v0, vs0, d0, ds0, p0, q0, hargs, rfl, rfl, h0, r0⟩ := trodAll_cons hA
  obtain ⟨v1, vs1, d1, ds1, p1, q1, rfl, rfl, rfl, h1, r1⟩ := trodAll_cons r0
  obtain ⟨rfl, rfl, rfl⟩ := trodAll_nil r1
  obtain rfl : args = #[v0, v1] := by cases args; simp_all
  obtain ⟨rfl, rfl⟩ := trodVars_none hV
  obtain ⟨a0, rfl, rfl, rfl, w0⟩ := open_int Try.underlying5 (hval 0 5 v0 rfl rfl) h0
  have k1 := h1
  have lt1 : ∀ x ∈ p1, x.block < W.heap.size := by obtain ⟨m, hm⟩ := k1; exact DataW.trod_lt m _ _ _ hm
  obtain ⟨b1, n1, c1, rfl⟩ := okWide_slice Try.underlying44 (hval 1 44 v1 rfl rfl)
  obtain ⟨u1, x1, e1, s1⟩ : ∃ v f, (Value.slice b1 n1 c1).cells.toList = [v] ∧ RBytes W W.heap.size v f := by obtain ⟨fuel, hf⟩ := h1; exact reads_bytes hf
  obtain rfl : u1 = Value.slice b1 n1 c1 := by simpa [Value.cells] using e1.symm
  clear hA0 hval0
  refine (lawLast (w := W) a0 _ x1 s1 w0).mono fun e W' ⟨he, bel⟩ => ?_
  subst he
  exact ⟨_, rfl, _, _, _, [], _, [], hW', trodAll_mk1 (shut_bool Try.underlying4 _), (trodAll_cons_mk (shut_int Try.underlying5 w0) (trodAll_cons_mk (Below.trod laidOut (by kernel_rfl) (of_decide_eq_true (by kernel_rfl)) k1 bel lt1) trodAll_mk0)), rfl, bel.frame _, fun h => by cases h⟩

theorem over : Rows.flashReadsLastWriteRow.holds Try.pinned (OpenSpec.ofChange Rows.flashReadsLastWriteSpec) :=
  OpenClaim.holds_of_wide 6 Try.f6 rfl rfl rfl rfl rfl rfl rfl ⟨rfl, rfl, rfl, rfl, rfl⟩ rfl rfl rfl rfl rfl (by kernel_rfl) Try.func6 (by kernel_rfl)
    (of_decide_eq_true (by kernel_rfl)) (by unfold Func.isWrapper; first | (rw [if_pos (by decide +kernel)]; kernel_rfl) | (rw [if_neg (by decide +kernel)]; exact ⟨rfl, rfl⟩))
    (fun os started H enc _ => lifted os started H enc)
end lawLastC

theorem flashReadsLastWrite_holds : Rows.FlashReadsLastWriteSaid := lawLastC.over

end Go.Proofs.Ytnmleaibonnbnaa
