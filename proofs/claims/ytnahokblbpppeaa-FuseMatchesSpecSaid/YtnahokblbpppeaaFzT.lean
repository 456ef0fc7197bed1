/- Fuses: Sound of package fuse. -/
import Derived.Test.YtnahokblbpppeaaFzS
namespace Go.Proofs.Ytnahokblbpppeaa
open Go.RowKit Go.Shelf

attribute [local go_sem] Oper.semAt_some

def mark (D : Nat) : Deferred := { target := .collected D, args := #[] }

/-- A frame that has ranged over iterators, no call deferred, goes out through its marks. -/
theorem marks_leave {F : Fence} {n : Nat} {P : Program} {fn : Func} {tmps : Array Value} {R : Ending → World → Prop} (J : World → Prop) (B : Nat)
    (hJ : ∀ W D, J W → B ≤ D → W.heap[D]? = some (.deferred (some [])) → J (W.putObj D (.deferred none)))
    (hend : ∀ W, J W → LeavesIn F n P fn tmps R [] .returning W) :
    ∀ (Ds : List Nat) (W : World), Ds.Nodup → (∀ D ∈ Ds, B ≤ D ∧ W.heap[D]? = some (.deferred (some []))) → J W → LeavesInM F n P fn tmps R (Ds.map mark) .returning W
  | [], W, _, _, hj => hend W hj
  | D :: Ds, W, hnd, hD, hj => by
    obtain ⟨hB, hK⟩ := hD D (by simp)
    refine ⟨by simp, .inl ⟨D, _, rfl, run_takeDeferred hK, ?_⟩⟩
    refine marks_leave J B hJ hend Ds _ (List.nodup_cons.1 hnd).2 (fun D' hD' => ?_) (hJ W D hj hB hK)
    obtain ⟨h1, h2⟩ := hD D' (by simp [hD'])
    refine ⟨h1, (World.putObj_heap_other ?_).trans h2⟩
    rintro rfl
    exact (List.nodup_cons.1 hnd).1 hD'

theorem grown_step {a b c : World} {r : Nat} {row : Option Nat} (h : a.grownBy b (some r)) (hg : b.grownBy c row) (hr : ∀ k, row = some k → a.heap.size ≤ k) : a.grownBy c (some r) :=
  ⟨hg.os.trans h.os, hg.tape.trans h.tape, hg.output.trans h.output, Nat.le_trans h.size hg.size, fun k hk hne => (hg.block k (Nat.lt_of_lt_of_le hk h.size) (fun e => by have := hr k e.symm; omega)).trans (h.block k hk hne)⟩

theorem below_set {a b : World} {r : Nat} (h : Below a.heap.size a b) (v : Value) : a.grownBy (b.setCell ⟨r, 0, none⟩ v) (some r) :=
  ⟨h.os, h.tape, h.output, by simpa [World.setCell] using h.size, fun k hk hne => (Below.heap_setCell b ⟨r, 0, none⟩ v k (fun e => hne (by rw [e]))).trans (h.block k hk)⟩

/-- Sound's way out: the result lies in its cell, whatever marks are left. -/
theorem marks_out {n : Nat} {w : World} {b s : Bool} (hs : b = s) {W : World} (hR : W.heap[w.heap.size + 1]? = some (.cells #[.bool b] 4 (0, 0))) (hB : Below w.heap.size w W) (Ds : List Nat)
    (hD : Ds.Nodup ∧ ∀ D ∈ Ds, w.heap.size + 2 ≤ D ∧ W.heap[D]? = some (.deferred (some []))) {tmps : Array Value} (ht : tmps.getD 2 undef = .pointer (some ⟨w.heap.size + 1, 0, none⟩)) :
    LeavesInM Fence.wide n Try.prog Try.f24 tmps (fun e w' => e = .returned (.bool s) ∧ Below w.heap.size w w') (Ds.map mark) .returning W := by
  refine marks_leave (fun W => W.heap[w.heap.size + 1]? = some (.cells #[.bool b] 4 (0, 0)) ∧ Below w.heap.size w W) (w.heap.size + 2) ?_ ?_ Ds W hD.1 hD.2 ⟨hR, hB⟩
  · rintro W D ⟨h1, h2⟩ hD' hK
    exact ⟨(World.putObj_heap_other (by omega)).trans h1, Below.grown h2 (grownBy_putObj' W D _) h2.size (fun k e => by cases e; omega)⟩
  · rintro W ⟨h1, h2⟩
    refine ⟨.bool b, ?_, by rw [hs], h2⟩
    have c1 := cell_of_one h1
    have ht' : tmps[2]?.getD undef = .pointer (some ⟨w.heap.size + 1, 0, none⟩) := by simpa using ht
    simp [results, Try.results24, go_sem, ht', c1]

set_option maxRecDepth 100000 in
set_option maxHeartbeats 4000000 in
theorem sound_any (v : Value) (f : List (List Nat)) (w : World) (hf : RRows w w.heap.size v f) (hS : Hid (∀ i, i < f.length → (nthRow f i).length % 3 = 0 ∧ (nthRow f i).length ≤ 1000)) :
    Calls Try.prog 24 #[.agg #[v]] w fun e w' => e = .returned (.bool (Fz.sound f)) ∧ Below w.heap.size w w' := by
  have hf' := hf
  obtain ⟨A, c, vs, rfl, hn, hc, hcs, hrows⟩ := hf
  unfold maxLen at hc
  clear hcs hrows
  refine (callsIn_wide (n := 6)).1 ?_
  refine callsIn_of_wp_marks Try.func24 rfl trivial ?_ rfl
  simp only [Try.ntmps24, List.size_toArray, List.length_cons, List.length_nil, Nat.reduceAdd, Nat.reduceSub, Array.replicate_succ, Array.replicate_zero, List.push_toArray, List.append_toArray, List.nil_append, List.cons_append]
  gi_wp2
  obtain ⟨W1, hW1⟩ : ∃ W1, W1 = (w.alloc (Obj.cells #[Value.slice A f.length c] 24)).alloc (Obj.cells #[Value.bool false] 4) := ⟨_, rfl⟩
  have hB1 : Below w.heap.size w W1 := by rw [hW1]; exact ((Below.refl _ _).alloc (Nat.le_refl _) _).alloc (by simp) _
  have R1 := Lib.hid (show W1.heap[w.heap.size + 1]? = some (.cells #[Value.bool false] 4 (0, 0)) by rw [hW1]; simpa using heap_alloc_new (w.alloc _) _)
  have Z1 := Lib.hid (show W1.heap.size = w.heap.size + 2 by rw [hW1]; simp)
  rw [← hW1]
  clear hW1
  refine wpIn_loop (fun a' wr => ∃ (k : Nat) (Ds : List Nat) (u4 u13 u14 u15 u16 u17 u32 : Value), k ≤ f.length ∧ Hid (∀ j, j < k → Fz.soundRow (nthRow f j) = true) ∧ Below (w.heap.size + 2) W1 wr ∧
      Hid (Ds.Nodup ∧ ∀ D ∈ Ds, w.heap.size + 2 ≤ D ∧ wr.heap[D]? = some (.deferred (some []))) ∧
      a' = { tmps := #[Value.agg #[Value.slice A f.length c], Value.pointer (some ⟨w.heap.size, 0, none⟩), Value.pointer (some ⟨w.heap.size + 1, 0, none⟩), undef, u4, undef, undef, undef, undef,
        Value.pointer (some ⟨w.heap.size, 0, none⟩), Value.slice A f.length c, Value.int .i64 f.length, Value.int .i64 k, u13, u14, u15, u16, u17, undef, undef, undef, undef, undef, undef, undef, undef, undef, undef, undef, undef, undef, undef, u32], defers := Ds.map mark })
    (fun a' _ => f.length - (intOf (a'.tmps.getD 12 undef)).toNat) ⟨0, [], _, _, _, _, _, _, _, Nat.zero_le _, fun j hj => absurd hj (by omega), Below.refl _ _, ⟨List.nodup_nil, by simp⟩, rfl⟩ ?_
  rintro a' wo ⟨k, Ds, u4, u13, u14, u15, u16, u17, u32, hk, HJ, hbw, HD, rfl⟩
  have hz := hbw.size
  rw [Z1.out] at hz
  have hR := Lib.hid ((hbw.block (w.heap.size + 1) (by omega)).trans R1.out)
  by_cases hlt : k < f.length
  · obtain ⟨b, o, A', c', rfl, hb, hcell, hl, hc', hbd, hg⟩ := hf'.row k hlt
    have hx : wo.cell? ⟨b, o + k, none⟩ = some (.slice A' (nthRow f k).length c') := (hbw.cell (p := ⟨b, o + k, none⟩) (by simp; omega)).trans ((hB1.cell (p := ⟨b, o + k, none⟩) hb).trans hcell)
    obtain ⟨hs3, hs1000⟩ := hS.out k hlt
    have HG := Lib.hid hg
    clear hg hbd hcell
    obtain ⟨b', o', hA', hcs'⟩ : ∃ b' o', (0 < (nthRow f k).length → A' = some ⟨b', o', none⟩) ∧ ∀ t, t < (nthRow f k).length → b' < w.heap.size ∧ w.cell? ⟨b', o' + t, none⟩ = some (.int .u8 (nth (nthRow f k) t : Nat)) := by
      rcases Nat.eq_zero_or_pos (nthRow f k).length with h | h
      · exact ⟨0, 0, fun h' => absurd h' (by omega), fun t ht => absurd ht (by omega)⟩
      · obtain ⟨b', o', e, h1, h2⟩ := HG.out h
        exact ⟨b', o', fun _ => e, fun t ht => ⟨h1, h2 t ht⟩⟩
    have HA := Lib.hid hA'
    have HC := Lib.hid hcs'
    clear hA' hcs'
    obtain ⟨W2, hW2⟩ : ∃ W2, W2 = (wo.alloc (Obj.cells #[Value.slice A' (nthRow f k).length c'] 26)).alloc (Obj.cells #[Value.int .i64 3] 3) := ⟨_, rfl⟩
    have hB2 : Below wo.heap.size wo W2 := by rw [hW2]; exact ((Below.refl _ _).alloc (Nat.le_refl _) _).alloc (by simp) _
    have Z2 : W2.heap.size = wo.heap.size + 2 := by rw [hW2]; simp
    have z2 : wo.heap.size + 2 ≤ W2.heap.size := by omega
    have q1 : W2.cell? ⟨wo.heap.size, 0, none⟩ = some (Value.slice A' (nthRow f k).length c') := by rw [hW2]; simp
    have q2 : W2.cell? ⟨wo.heap.size + 1, 0, none⟩ = some (Value.int .i64 3) := by rw [hW2]; simp [go_sem]
    have Q := Lib.hid (chunk_stops (n := 5) (by omega) wo.heap.size b' o' (nthRow f k).length c' A' hs1000 hs3 hl hc' HA.out W2 (by omega) q1 q2)
    have hW2' := Lib.hid hW2
    clear hW2 q1 q2 Z2
    gi_wp2
    refine ⟨trivial, (callsIn_wide.2 (chunk_any _ _ _ _)).mono ?_⟩
    rintro e w2 ⟨rfl, rfl⟩
    rw [← hW2'.out]
    gi_wp2
    have hRl : w.heap.size + 1 < W2.heap.size := by omega
    have hR2 := Lib.hid ((hB2.block (w.heap.size + 1) (by omega)).trans hR.out)
    refine wpIn_rangeFunc_ownF rfl (by omega) (gf := 44) (lb := #[.pointer (some ⟨wo.heap.size, 0, none⟩), .pointer (some ⟨wo.heap.size + 1, 0, none⟩)]) rfl trivial (enters_of Try.func44 (by kernel_rfl) rfl)
      Q.out belowK_t (belowK_b (Nat.le_refl _)) (Below.refl _ _) (fun _ => rfl)
      (fun pre W => Hid (∀ i ∈ pre, Fz.ssum (nthRow f k) i.1 3 ≤ 1) ∧ Below W2.heap.size W2 W)
      (fun cd _ W => cd = .ret ∧ Fz.soundRow (nthRow f k) = false ∧ W.heap[w.heap.size + 1]? = some (.cells #[Value.bool false] 4 (0, 0)) ∧ W2.grownBy W (some (w.heap.size + 1)))
      (fun s A B row hs hg hr => ⟨hs.1, hs.2.grown hg hs.2.size (fun k e => (hr k e).1)⟩)
      (fun cd s A B row hs hg hr => ⟨hs.1, hs.2.1, (hg.block _ (lt_of_block hs.2.2.1) (fun e => by have := (hr _ e.symm).1; omega)).trans hs.2.2.1, grown_step hs.2.2.2 hg (fun k e => (hr k e).1)⟩)
      ⟨fun i hi => absurd hi (by simp), Below.refl _ _⟩
      (fun x => { tmps := #[Value.agg #[Value.slice (some ⟨b, o, none⟩) f.length c], Value.pointer (some ⟨w.heap.size, 0, none⟩), Value.pointer (some ⟨w.heap.size + 1, 0, none⟩), undef, Value.slice A' (nthRow f k).length c', (Value.slice (some ⟨b', o' + x.1 * 3, none⟩) 3 3), undef, undef, undef, Value.pointer (some ⟨w.heap.size, 0, none⟩), Value.slice (some ⟨b, o, none⟩) f.length c, Value.int .i64 f.length, Value.int .i64 k, Value.bool true, Value.pointer (some ⟨b, o + k, none⟩), Value.slice A' (nthRow f k).length c', Value.slice A' (nthRow f k).length c', Value.func (.func 44) #[] #[.pointer (some ⟨wo.heap.size, 0, none⟩), .pointer (some ⟨wo.heap.size + 1, 0, none⟩)], (Value.slice (some ⟨b', o' + x.1 * 3, none⟩) 3 3), undef, undef, undef, undef, undef, undef, undef, undef, undef, undef, undef, undef, undef, u32], defers := [] }) ?assign ?body ?done ?stop
    case assign =>
      intro l x W K hK
      dsimp only [chunkV]
      gi_wp2
      exact hK
    case body =>
      rintro l pre x W ⟨HI, hbW⟩ _
      have hx3 := x.2
      have hbWr : Below w.heap.size w W := (hB1.trans (hbw.mono (by omega))).trans ((hB2.mono (by omega)).trans (hbW.mono (by omega)))
      have cR := cell_of_one ((hbW.block (w.heap.size + 1) (by omega)).trans hR2.out)
      have fR := free_of_one ((hbW.block (w.heap.size + 1) (by omega)).trans hR2.out)
      have HBW := Lib.hid hbW
      clear hbW
      gi_wp2
      gi_loopw [6, 21] (fun s m wr => ∃ m0 : Nat, m0 ≤ 3 ∧ m = .int .i64 m0 ∧ s = .int .i64 (Fz.ssum (nthRow f k) x.1 m0) ∧ wr = W) (fun _ m _ => 3 - (intOf m).toNat)
      case atStart => exact ⟨0, Nat.zero_le _, rfl, rfl, rfl⟩
      case round =>
        obtain ⟨m, hm, rfl, rfl, rfl⟩ := hrel
        obtain ⟨hp1, hp2⟩ := Fz.ssum_bd (nthRow f k) x.1 m
        by_cases hlm : m < 3
        · obtain ⟨hbb, hcell⟩ := HC.out (x.1 * 3 + m) (by omega)
          have hcell2 : wr.cell? ⟨b', o' + x.1 * 3 + m, none⟩ = some (.int .u8 (nth (nthRow f k) (x.1 * 3 + m) : Nat)) := by
            have := (hbWr.cell (p := ⟨b', o' + (x.1 * 3 + m), none⟩) hbb).trans hcell
            rwa [← Nat.add_assoc] at this
          clear hcell
          by_cases h3 : nth (nthRow f k) (x.1 * 3 + m) = 3
          · have H := Lib.hid (Fz.ssum_hit h3)
            have e3 : ((nth (nthRow f k) (x.1 * 3 + m) : Int) == 3) = true := by simp; omega
            clear h3
            gi_wp2
            go_roundw
            case rel => exact ⟨m + 1, by omega, by go_num, by rw [H.out], by first | rfl | trivial⟩
            case measure => simp [intOf]; omega
          · have H := Lib.hid (Fz.ssum_miss h3)
            have e3 : ((nth (nthRow f k) (x.1 * 3 + m) : Int) == 3) = false := by simp; omega
            clear h3
            gi_wp2
            go_roundw
            case rel => exact ⟨m + 1, by omega, by go_num, by rw [H.out], by first | rfl | trivial⟩
            case measure => simp [intOf]; omega
        · obtain rfl : m = 3 := by omega
          by_cases h2 : 1 < Fz.ssum (nthRow f k) x.1 3
          · have HS := Lib.hid (Fz.soundRow_bad hx3 h2)
            have hRc := Lib.hid ((HBW.out.block (w.heap.size + 1) (by omega)).trans hR2.out)
            gi_wp2
            exact ⟨KeepsOthers.setCell _ _ _, rfl, HS.out, one_setCell hRc.out, below_set HBW.out _⟩
          · have HI2 := Lib.hid (show ∀ i ∈ pre ++ [x], Fz.ssum (nthRow f k) i.1 3 ≤ 1 by
              intro i hi
              rcases List.mem_append.1 hi with h | h
              · exact HI.out i h
              · have : i = x := by simpa using h
                subst this; omega)
            gi_wp2
            exact ⟨KeepsOthers.refl _, Below.refl _ _, HI2.out, HBW.out⟩
    case done =>
      rintro D ys W hD hys ⟨HI, hbW⟩ hK
      have HS := Lib.hid (Fz.below_succ HJ.out (Fz.soundRow_all (xs := nthRow f k) (fun i hi => by
        have hm : i ∈ ys.map (·.1) := by rw [hys]; simpa using hi
        obtain ⟨y, hy, rfl⟩ := List.mem_map.1 hm
        exact HI.out y hy)))
      have hbK : Below (w.heap.size + 2) W1 W := hbw.trans ((hB2.mono (by omega)).trans (hbW.mono (by omega)))
      have HD2 := Lib.hid (show (D :: Ds).Nodup ∧ ∀ D' ∈ D :: Ds, w.heap.size + 2 ≤ D' ∧ W.heap[D']? = some (.deferred (some [])) by
        have hlt : ∀ D' ∈ Ds, D' < wo.heap.size := fun D' h => (Array.getElem?_eq_some_iff.1 (HD.out.2 D' h).2).1
        refine ⟨List.nodup_cons.2 ⟨fun h => by have := hlt D h; omega, HD.out.1⟩, fun D' h => ?_⟩
        rcases List.mem_cons.1 h with rfl | h
        · exact ⟨by omega, hK⟩
        · have h1 := hlt D' h
          exact ⟨(HD.out.2 D' h).1, (hbW.block D' (by omega)).trans ((hB2.block D' h1).trans (HD.out.2 D' h).2)⟩)
      clear hK hbW
      gi_wp2
      refine ⟨⟨k + 1, D :: Ds, .slice A' (nthRow f k).length c', .bool true, .pointer (some ⟨b, o + k, none⟩), .slice A' (nthRow f k).length c', .slice A' (nthRow f k).length c', .func (.func 44) #[] #[.pointer (some ⟨wo.heap.size, 0, none⟩), .pointer (some ⟨wo.heap.size + 1, 0, none⟩)], .int .i64 ((k : Int) + 1), by omega, HS.out, hbK, HD2.out, ?_⟩, ?_⟩
      · simp [mark]
      · simp [intOf]; omega
    case stop =>
      rintro D cd pre W hD _ ⟨rfl, hbad, hRW, hgW⟩ hK
      have HS := Lib.hid (Fz.sound_bad hlt hbad)
      have HD2 := Lib.hid (show (D :: Ds).Nodup ∧ ∀ D' ∈ D :: Ds, w.heap.size + 2 ≤ D' ∧ W.heap[D']? = some (.deferred (some [])) by
        have hlt : ∀ D' ∈ Ds, D' < wo.heap.size := fun D' h => (Array.getElem?_eq_some_iff.1 (HD.out.2 D' h).2).1
        refine ⟨List.nodup_cons.2 ⟨fun h => by have := hlt D h; omega, HD.out.1⟩, fun D' h => ?_⟩
        rcases List.mem_cons.1 h with rfl | h
        · exact ⟨by omega, hK⟩
        · have h1 := hlt D' h
          have h2 := (HD.out.2 D' h).1
          exact ⟨h2, (hgW.block D' (by omega) (by simp; omega)).trans ((hB2.block D' h1).trans (HD.out.2 D' h).2)⟩)
      have hBW : Below w.heap.size w W := Below.grown ((hB1.trans (hbw.mono (by omega))).trans (hB2.mono (by omega))) hgW (by omega) (fun j hj => by cases hj; omega)
      clear hK hgW
      gi_wp2
      exact marks_out HS.out.symm hRW hBW (D :: Ds) HD2.out rfl
  · have HS := Lib.hid (Fz.sound_all (f := f) (fun j hj => HJ.out j (by omega)))
    have hBW : Below w.heap.size w wo := hB1.trans (hbw.mono (by omega))
    have cR := cell_of_one hR.out
    have fR := free_of_one hR.out
    have hRc := one_setCell (u := .bool true) hR.out
    gi_wp2
    exact marks_out HS.out.symm hRc (hBW.setCell (by simp) _) Ds ⟨HD.out.1, fun D hD => ⟨(HD.out.2 D hD).1, (Below.heap_setCell _ _ _ _ (by have := (HD.out.2 D hD).1; simp; omega)).trans (HD.out.2 D hD).2⟩⟩ rfl

end Go.Proofs.Ytnahokblbpppeaa
