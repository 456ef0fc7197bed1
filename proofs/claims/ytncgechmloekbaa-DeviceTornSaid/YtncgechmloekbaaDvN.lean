/- Device: a Hardware as one value; the callees' contracts in that form; Small of the reference. -/
import Derived.Test.YtncgechmloekbaaDvM
import Derived.Test.YtncgechmloekbaaDvK
import Derived.Test.YtncgechmloekbaaDvC
import Derived.Test.YtncgechmloekbaaFzF
namespace Go.Proofs.Ytncgechmloekbaa
open Go.RowKit

/-- A Hardware, by value: what its eighteen cells read as. -/
def HwVal (W : World) (ok : Nat → Prop) (cs : Array Value) (f : List (List Nat)) (m : List ByteArray) (r : Nat → Int) : Prop :=
  ∃ v u, cs = #[v, u, .int .u8 (r 0), .int .u8 (r 1), .int .u8 (r 2), .int .u8 (r 3), .int .u8 (r 4), .int .u8 (r 5), .int .u8 (r 6), .int .u8 (r 7), .int .u8 (r 8), .int .u8 (r 9), .int .u8 (r 10), .int .u8 (r 11), .int .u8 (r 12), .int .u8 (r 13), .int .u8 (r 14), .int .u8 (r 15)] ∧ RRowsK W ok v f ∧ StrsK W ok u m
section
variable {W W' : World} {ok ok' : Nat → Prop} {cs cs2 : Array Value} {f g : List (List Nat)} {m n : List ByteArray} {r s : Nat → Int}
theorem HwVal.size (h : HwVal W ok cs f m r) : cs.size = 18 := by obtain ⟨v, u, rfl, _⟩ := h; rfl
theorem HwVal.ones (h : HwVal W ok cs f m r) : cs.all (·.oneCell') = true := by
  obtain ⟨v, u, rfl, h1, h2⟩ := h
  obtain ⟨A, c, rfl⟩ := h1.form_
  obtain ⟨A2, c2, rfl⟩ := h2.form_
  simp [Value.oneCell']
theorem HwVal.rows (h : HwVal W ok cs f m r) : ∃ v, cs[0]? = some v ∧ RRowsK W ok v f := by obtain ⟨v, u, rfl, h1, _⟩ := h; exact ⟨v, rfl, h1⟩
theorem HwVal.strs (h : HwVal W ok cs f m r) : ∃ v, cs[1]? = some v ∧ StrsK W ok v m := by obtain ⟨v, u, rfl, _, h1⟩ := h; exact ⟨u, rfl, h1⟩
theorem HwVal.below (h : HwVal W ok cs f m r) (hb : Below W.heap.size W W') : HwVal W' ok cs f m r := by
  obtain ⟨v, u, h0, h1, h2⟩ := h
  exact ⟨v, u, h0, h1.below hb, h2.below hb⟩
theorem HwVal.keep (h : HwVal W ok cs f m r) (hk : ∀ b, ok b → b < W.heap.size → W'.heap[b]? = W.heap[b]?) (hi : ∀ b, ok b → ok' b) : HwVal W' ok' cs f m r := by
  obtain ⟨v, u, h0, h1, h2⟩ := h
  exact ⟨v, u, h0, h1.bnd.keep (fun b hb => hk b hb.1 hb.2) (fun b hb => hi b hb.1), h2.bnd.keep (fun b hb => hk b hb.1 hb.2) (fun b hb => hi b hb.1)⟩
theorem HwVal.more (h : HwVal W ok cs f m r) (hi : ∀ b, ok b → ok' b) : HwVal W ok' cs f m r := h.keep (fun _ _ _ => rfl) hi
theorem HwVal.bar (h : HwVal W ok cs f m r) : HwVal W (fun b => b < W.heap.size) cs f m r := by
  obtain ⟨v, u, h0, h1, h2⟩ := h
  exact ⟨v, u, h0, h1.bnd.keep (fun _ _ => rfl) (fun b hb => hb.2), h2.bnd.keep (fun _ _ => rfl) (fun b hb => hb.2)⟩
theorem set_hw (v u : Value) : ∀ v' u' : Value, ((#[v, u, .int .u8 (r 0), .int .u8 (r 1), .int .u8 (r 2), .int .u8 (r 3), .int .u8 (r 4), .int .u8 (r 5), .int .u8 (r 6), .int .u8 (r 7), .int .u8 (r 8), .int .u8 (r 9), .int .u8 (r 10), .int .u8 (r 11), .int .u8 (r 12), .int .u8 (r 13), .int .u8 (r 14), .int .u8 (r 15)] : Array Value).setIfInBounds 0 v').setIfInBounds 1 u' = #[v', u', .int .u8 (r 0), .int .u8 (r 1), .int .u8 (r 2), .int .u8 (r 3), .int .u8 (r 4), .int .u8 (r 5), .int .u8 (r 6), .int .u8 (r 7), .int .u8 (r 8), .int .u8 (r 9), .int .u8 (r 10), .int .u8 (r 11), .int .u8 (r 12), .int .u8 (r 13), .int .u8 (r 14), .int .u8 (r 15)] := fun _ _ => rfl
end

/-- what Do says of its call: the device behind it -/
def DoneSays (w : World) (ok : Nat → Prop) (f : List (List Nat)) (m : List ByteArray) (r : Nat → Int) (k b c : Int) (s : ByteArray) (cut : Bool) (nb : Int) (noise : Bool) (e : Ending) (w' : World) : Prop :=
  ∃ cs', e = .returned (.tuple #[.agg cs', .agg #[.int .i64 (doV f m k b c s cut noise), .string (doB f m k b c s cut)], .int .i64 (doE f m k b c s)]) ∧
    HwVal w' (fun x => ok x ∨ w.heap.size ≤ x) cs' (doF f m k b c s cut) (doM f m k b c s cut nb) r ∧ Below w.heap.size w w'
theorem done_of {w : World} {ok : Nat → Prop} {cs : Array Value} {f : List (List Nat)} {m : List ByteArray} {r : Nat → Int} {k b c : Int} {s : ByteArray} {cut : Bool} {nb : Int} {noise : Bool} {e : Ending} {w' : World}
    (hh : HwVal w ok cs f m r) (h : DoSays w ok cs f m k b c s cut nb noise e w') : DoneSays w ok f m r k b c s cut nb noise e w' := by
  obtain ⟨v, u, rfl, _, _⟩ := hh
  obtain ⟨v', u', he, h1, h2, h3⟩ := h
  exact ⟨_, he, ⟨v', u', set_hw v u v' u', h1, h2⟩, h3⟩
section
variable {w : World} {ok : Nat → Prop} {cs cs2 : Array Value} {f g : List (List Nat)} {m n : List ByteArray} {r s : Nat → Int}
theorem doC (h : HwVal w ok cs f m r) (hok : ∀ x, ok x → x < w.heap.size) (hS : Fz.small f) (hlen : m.length ≤ 1000) (k b c : Int) (t : ByteArray) (cut noise : Bool) (nb : Int) (hbm : t.size ≤ maxLen) :
    Calls Try.prog 10 #[.agg cs, .agg #[.int .i64 k, .int .i64 b, .int .i64 c, .string t], .agg #[.bool cut, .int .i64 nb, .bool noise]] w (DoneSays w ok f m r k b c t cut nb noise) :=
  (do_any k b c t cut noise nb cs h.size h.ones f m w ok hok h.rows h.strs hS hlen hbm).mono fun _ _ h2 => done_of h h2
theorem rdoC (h : HwVal w ok cs f m r) (hok : ∀ x, ok x → x < w.heap.size) (hS : Fz.small f) (k b c : Int) (h3 : Fz.ex f b c = true → Fz.cellOf f b c ≤ 3) (hlen : m.length ≤ 1000) (t : ByteArray) (cut noise : Bool) (nb : Int) (hbm : t.size ≤ maxLen) :
    Calls Try.prog 11 #[.agg cs, .agg #[.int .i64 k, .int .i64 b, .int .i64 c, .string t], .agg #[.bool cut, .int .i64 nb, .bool noise]] w (DoneSays w ok f m r k b c t cut nb noise) :=
  (rdo_any k b c t cut noise nb cs h.size h.ones f m w ok hok h.rows h.strs hS h3 hlen hbm).mono fun _ _ h2 => done_of h h2
theorem sameC {ok2 : Nat → Prop} (h : HwVal w ok cs f m r) (h2 : HwVal w ok2 cs2 g n s) :
    Calls Try.prog 15 #[.agg cs, .agg cs2] w fun e w' => e = .returned (.bool (hwSame f g m n r s)) ∧ Below w.heap.size w w' := by
  obtain ⟨v, u, rfl, h3, h4⟩ := h
  obtain ⟨v2, u2, rfl, h5, h6⟩ := h2
  exact dsame_any v u v2 u2 f g m n r s w h3.plain h4.plain h5.plain h6.plain
theorem rsameC {ok2 : Nat → Prop} (h : HwVal w ok cs f m r) (h2 : HwVal w ok2 cs2 g n s) :
    Calls Try.prog 14 #[.agg cs, .agg cs2] w fun e w' => e = .returned (.bool (hwSame f g m n r s)) ∧ Below w.heap.size w w' := by
  obtain ⟨v, u, rfl, h3, h4⟩ := h
  obtain ⟨v2, u2, rfl, h5, h6⟩ := h2
  exact rhsame_any v u v2 u2 f g m n r s w h3.plain h4.plain h5.plain h6.plain
/-- a root key, by value -/
def rootOf (r : Nat → Int) : Array Value := #[.int .u8 (r 0), .int .u8 (r 1), .int .u8 (r 2), .int .u8 (r 3), .int .u8 (r 4), .int .u8 (r 5), .int .u8 (r 6), .int .u8 (r 7), .int .u8 (r 8), .int .u8 (r 9), .int .u8 (r 10), .int .u8 (r 11), .int .u8 (r 12), .int .u8 (r 13), .int .u8 (r 14), .int .u8 (r 15)]
def MadeSays (w : World) (bits : List Int) (r : Nat → Int) (e : Ending) (w' : World) : Prop :=
  ∃ cs', e = .returned (.tuple #[.agg cs', .int .i64 (Fz.newE bits)]) ∧ HwVal w' (fun b => w.heap.size ≤ b) cs' (Fz.newF bits) (newFlash bits) (newRoot bits r) ∧ Below w.heap.size w w'
theorem newC (r : Nat → Int) (v : Value) (bits : List Int) (w : World) (hv : RInts w w.heap.size v bits) : Calls Try.prog 12 #[.agg (rootOf r), v] w (MadeSays w bits r) :=
  (dnew_any r v bits w hv).mono fun _ _ ⟨v', u', h1, h2, h3, h4⟩ => ⟨_, h1, ⟨v', u', rfl, h2, h3⟩, h4⟩
theorem rnewC (r : Nat → Int) (v : Value) (bits : List Int) (w : World) (hv : RInts w w.heap.size v bits) : Calls Try.prog 13 #[.agg (rootOf r), v] w (MadeSays w bits r) :=
  (drnew_any r v bits w hv).mono fun _ _ ⟨v', u', h1, h2, h3, h4⟩ => ⟨_, h1, ⟨v', u', rfl, h2, h3⟩, h4⟩
end

/-- Small, in plain words -/
def smallHw (f : List (List Nat)) (m : List ByteArray) : Bool := (Fz.valid f && decide (f.length ≤ 6) && decide (m.length ≤ 200)) && (f.all fun x => decide (x.length ≤ 60)) && (m.all fun s => decide (s.size ≤ 300))
section
variable {f : List (List Nat)} {m : List ByteArray}
theorem smallHw_no1 (h : Fz.valid f = false) : smallHw f m = false := by simp [smallHw, h]
theorem smallHw_no2 (h : ¬ f.length ≤ 6) : smallHw f m = false := by simp [smallHw, h]
theorem smallHw_no3 (h : ¬ m.length ≤ 200) : smallHw f m = false := by simp [smallHw, h]
theorem smallHw_no4 {k : Nat} (hk : k < f.length) (h : ¬ (nthRow f k).length ≤ 60) : smallHw f m = false := by
  have : (f.all fun x => decide (x.length ≤ 60)) = false := by
    rw [List.all_eq_false]
    refine ⟨nthRow f k, ?_, by simpa using h⟩
    simp [nthRow, hk]
  simp [smallHw, this]
theorem smallHw_no5 {k : Nat} (hk : k < m.length) (h : ¬ (Fm.nthS m k).size ≤ 300) : smallHw f m = false := by
  have : (m.all fun s => decide (s.size ≤ 300)) = false := by
    rw [List.all_eq_false]
    refine ⟨Fm.nthS m k, ?_, by simpa using h⟩
    simp [Fm.nthS, hk]
  simp [smallHw, this]
theorem smallHw_yes (h1 : Fz.valid f = true) (h2 : f.length ≤ 6) (h3 : m.length ≤ 200) (h4 : ∀ j, j < f.length → (nthRow f j).length ≤ 60) (h5 : ∀ j, j < m.length → (Fm.nthS m j).size ≤ 300) : smallHw f m = true := by
  have a : (f.all fun x => decide (x.length ≤ 60)) = true := by
    rw [List.all_eq_true]
    intro x hx
    obtain ⟨i, hi, rfl⟩ := List.getElem_of_mem hx
    simpa [nthRow, hi] using h4 i hi
  have b : (m.all fun s => decide (s.size ≤ 300)) = true := by
    rw [List.all_eq_true]
    intro x hx
    obtain ⟨i, hi, rfl⟩ := List.getElem_of_mem hx
    simpa [Fm.nthS, hi] using h5 i hi
  simp [smallHw, h1, h2, h3, a, b]
theorem upto_succ {p : Nat → Prop} {k : Nat} (h : ∀ j, j < k → p j) (hk : p k) : ∀ j, j < k + 1 → p j := by
  intro j hj
  rcases Nat.lt_or_eq_of_le (Nat.le_of_lt_succ hj) with h1 | h1
  · exact h j h1
  · exact h1 ▸ hk
end

set_option maxRecDepth 100000 in
set_option maxHeartbeats 2000000 in
theorem hsmall_any {v u : Value} (cs : Array Value) (f : List (List Nat)) (m : List ByteArray) (w : World) (hc0 : cs[0]? = some v) (hc1 : cs[1]? = some u) (hf : RRows w w.heap.size v f) (hm : Fm.RStrs w w.heap.size u m) :
    Calls Try.prog 9 #[.agg cs] w fun e w' => e = .returned (.bool (smallHw f m)) ∧ Below w.heap.size w w' := by
  obtain ⟨A, c, rfl, hn, hc⟩ := hf.form_
  obtain ⟨A2, c2, rfl, hn2, hc2⟩ := hm.form
  unfold maxLen at hc hc2
  have q0 : (w.alloc (.cells cs 31)).cell? ⟨w.heap.size, 0, none⟩ = some (.slice A f.length c) := cell_block (heap_alloc_new _ _) hc0
  have q1 : (w.alloc (.cells cs 31)).cell? ⟨w.heap.size, 1, none⟩ = some (.slice A2 m.length c2) := cell_block (heap_alloc_new _ _) hc1
  clear hc0 hc1
  go_enter Try.func9, Try.ntmps9
  go_wp2_with fail
  refine (rvalid_any _ f _ ((hf.below (Below.new _)).more (by simp))).mono ?_
  rintro e w1 ⟨rfl, hb1⟩
  have q0 := (hb1.cell (p := ⟨w.heap.size, 0, none⟩) (by simp)).trans q0
  have q1 := (hb1.cell (p := ⟨w.heap.size, 1, none⟩) (by simp)).trans q1
  have HB : Below w.heap.size w w1 := (Below.new _).trans (hb1.mono (by simp))
  have hf := hf.below HB
  have hm := hm.below HB
  clear hb1
  cases hv : Fz.valid f
  · have H := Lib.hid (smallHw_no1 (m := m) hv)
    clear hv hf hm
    go_wp2
    go_ret
    exact ⟨ret_bool H.out.symm, HB⟩
  · by_cases h6 : f.length ≤ 6
    · by_cases h200 : m.length ≤ 200
      · have HV := Lib.hid hv
        clear hv
        go_wp2
        go_loop [4] (fun i => ∃ k : Nat, k ≤ f.length ∧ Hid (∀ j, j < k → (nthRow f j).length ≤ 60) ∧ i = .int .i64 k) (fun i => f.length - (intOf i).toNat)
        case atStart => exact ⟨0, Nat.zero_le _, fun j hj => absurd hj (by omega), rfl⟩
        case round =>
          obtain ⟨k, hk, HJ, rfl⟩ := hrel
          by_cases hlt : k < f.length
          · obtain ⟨b, o, A', c', rfl, hb, hcell, h4, h5, _, _⟩ := hf.row k hlt
            unfold maxLen at h5
            by_cases hs : (nthRow f k).length ≤ 60
            · have H := Lib.hid (upto_succ (p := fun j => (nthRow f j).length ≤ 60) HJ.out hs)
              clear hf hm
              go_wp2
              go_round
              case rel => exact ⟨k + 1, by omega, H.out, by go_num⟩
              case measure => simp [intOf]; omega
            · have H := Lib.hid (smallHw_no4 (m := m) hlt hs)
              clear hf hm
              go_wp2
              go_ret
              exact ⟨ret_bool H.out.symm, HB⟩
          · have HA := Lib.hid (fun j (hj : j < f.length) => HJ.out j (by omega))
            go_wp2
            go_loop [5] (fun i => ∃ k : Nat, k ≤ m.length ∧ Hid (∀ j, j < k → (Fm.nthS m j).size ≤ 300) ∧ i = .int .i64 k) (fun i => m.length - (intOf i).toNat)
            case atStart => exact ⟨0, Nat.zero_le _, fun j hj => absurd hj (by omega), rfl⟩
            case round =>
              obtain ⟨k2, hk2, HJ2, rfl⟩ := hrel
              by_cases hlt2 : k2 < m.length
              · obtain ⟨b, o, rfl, hb, hcell, hsz⟩ := hm.at_ hlt2
                unfold maxLen at hsz
                by_cases hs : (Fm.nthS m k2).size ≤ 300
                · have H := Lib.hid (upto_succ (p := fun j => (Fm.nthS m j).size ≤ 300) HJ2.out hs)
                  clear hf hm
                  go_wp2
                  go_round
                  case rel => exact ⟨k2 + 1, by omega, H.out, by go_num⟩
                  case measure => simp [intOf]; omega
                · have H := Lib.hid (smallHw_no5 (f := f) hlt2 hs)
                  clear hf hm
                  go_wp2
                  go_ret
                  exact ⟨ret_bool H.out.symm, HB⟩
              · have H := Lib.hid (smallHw_yes HV.out h6 h200 HA.out (fun j hj => HJ2.out j (by omega)))
                clear hf hm
                go_wp2
                go_ret
                exact ⟨ret_bool H.out.symm, HB⟩
      · have H := Lib.hid (smallHw_no3 (f := f) h200)
        clear hf hm
        go_wp2
        go_ret
        exact ⟨ret_bool H.out.symm, HB⟩
    · have H := Lib.hid (smallHw_no2 (m := m) h6)
      clear hf hm
      go_wp2
      go_ret
      exact ⟨ret_bool H.out.symm, HB⟩
theorem smallC {w : World} {ok : Nat → Prop} {cs : Array Value} {f : List (List Nat)} {m : List ByteArray} {r : Nat → Int} (h : HwVal w ok cs f m r) :
    Calls Try.prog 9 #[.agg cs] w fun e w' => e = .returned (.bool (smallHw f m)) ∧ Below w.heap.size w w' := by
  obtain ⟨v, hv, h1⟩ := h.rows
  obtain ⟨u, hu, h2⟩ := h.strs
  exact hsmall_any cs f m w hv hu h1.plain h2.plain

end Go.Proofs.Ytncgechmloekbaa
