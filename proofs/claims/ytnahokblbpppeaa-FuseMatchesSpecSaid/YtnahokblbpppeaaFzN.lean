/- Fuses: slices.Clone at both types. -/
import Derived.Test.YtnahokblbpppeaaFzM
namespace Go.Proofs.Ytnahokblbpppeaa
open Go.RowKit

theorem own_below {W W' : World} {base : Nat} {e : TypeId} {sz : Nat} {v : Value} {k : Nat} {xs : List Value} (h : W.ownsRow base e sz v k xs) (hb : Below W.heap.size W W') : W'.ownsRow base e sz v k xs := by
  refine ⟨h.1, ?_⟩
  rcases h.2 with h | ⟨g, cap, cur, rfl, h1, h2, h3⟩
  · exact .inl h
  · exact .inr ⟨g, cap, cur, rfl, h1, (hb.block g (lt_of_block h2)).trans h2, h3⟩

def u8s (xs : List Nat) : List Value := xs.map fun x => .int .u8 (x : Nat)

/-! The same with whatever bar on the blocks. -/
def CellsK (w : World) (ok : Nat → Prop) (A : Option Addr) (n : Nat) (f : Nat → Value) : Prop :=
  0 < n → ∃ b o, A = some ⟨b, o, none⟩ ∧ ok b ∧ ∀ i, i < n → w.cell? ⟨b, o + i, none⟩ = some (f i)
def RBytesK (w : World) (ok : Nat → Prop) (v : Value) (xs : List Nat) : Prop :=
  ∃ A c, v = .slice A xs.length c ∧ xs.length ≤ c ∧ c ≤ maxLen ∧ (∀ x ∈ xs, x < 256) ∧ CellsK w ok A xs.length (fun i => .int .u8 (nth xs i : Nat))
def RRowsK (w : World) (ok : Nat → Prop) (v : Value) (f : List (List Nat)) : Prop :=
  ∃ A c vs, v = .slice A f.length c ∧ f.length ≤ c ∧ c ≤ maxLen ∧ CellsK w ok A f.length vs ∧ ∀ i, i < f.length → RBytesK w ok (vs i) (nthRow f i)
section
variable {w w' : World} {ok ok' : Nat → Prop} {B : Nat} {A : Option Addr} {n : Nat} {fn : Nat → Value} {v : Value} {xs : List Nat} {f : List (List Nat)}
theorem CellsK.keep (h : CellsK w ok A n fn) (hk : ∀ b, ok b → w'.heap[b]? = w.heap[b]?) (hi : ∀ b, ok b → ok' b) : CellsK w' ok' A n fn := by
  intro hn
  obtain ⟨b, o, hA, hb, hc⟩ := h hn
  exact ⟨b, o, hA, hi b hb, fun i hi => (World.cell?_of_block (a := ⟨b, o + i, none⟩) (hk b hb)).trans (hc i hi)⟩
theorem RBytesK.keep (h : RBytesK w ok v xs) (hk : ∀ b, ok b → w'.heap[b]? = w.heap[b]?) (hi : ∀ b, ok b → ok' b) : RBytesK w' ok' v xs := by
  obtain ⟨A, c, h1, h2, h3, h4, h5⟩ := h
  exact ⟨A, c, h1, h2, h3, h4, h5.keep hk hi⟩
theorem RRowsK.keep (h : RRowsK w ok v f) (hk : ∀ b, ok b → w'.heap[b]? = w.heap[b]?) (hi : ∀ b, ok b → ok' b) : RRowsK w' ok' v f := by
  obtain ⟨A, c, vs, h1, h2, h3, h4, h5⟩ := h
  exact ⟨A, c, vs, h1, h2, h3, h4.keep hk hi, fun i hi' => (h5 i hi').keep hk hi⟩
theorem CellsK.plain (h : CellsK w ok A n fn) : Cells w w.heap.size A n fn := by
  intro hn
  obtain ⟨b, o, hA, hb, hc⟩ := h hn
  exact ⟨b, o, hA, World.block_lt_of_cell? w _ (hc 0 hn), hc⟩
theorem RBytesK.plain (h : RBytesK w ok v xs) : RBytes w w.heap.size v xs := by
  obtain ⟨A, c, h1, h2, h3, h4, h5⟩ := h
  exact ⟨A, c, h1, h2, h3, h4, h5.plain⟩
theorem RRowsK.plain (h : RRowsK w ok v f) : RRows w w.heap.size v f := by
  obtain ⟨A, c, vs, h1, h2, h3, h4, h5⟩ := h
  exact ⟨A, c, vs, h1, h2, h3, h4.plain, fun i hi => (h5 i hi).plain⟩
theorem RRows.barred (h : RRows w B v f) : RRowsK w (· < B) v f := h
end

theorem rowsK_of_own {W : World} {base : Nat} {e : TypeId} {v : Value} {k : Nat} {vals : List Value} {f : List (List Nat)} {ok : Nat → Prop} (hown : W.ownsRow base e 1 v k vals) (hlen : f.length = k)
    (hok : ∀ b, base ≤ b → ok b) (hb : ∀ i u, vals[i]? = some u → RBytesK W ok u (nthRow f i)) : RRowsK W ok v f := by
  have hl : vals.length = k := by simpa using hown.1
  have hrow : ∀ i, i < f.length → RBytesK W ok (vals.getD i .nilFunc) (nthRow f i) := by
    intro i hi
    have h1 : i < vals.length := by omega
    have := hb i vals[i] (List.getElem?_eq_getElem h1)
    simpa [List.getElem?_eq_getElem h1] using this
  have hcells : ∀ (g : Nat), v.ownBlock = some g → ∀ j u, vals[j]? = some u → W.cell? ((⟨g, 0, none⟩ : Addr).add j) = some u := fun g hg => hown.cells hg
  rcases hown.2 with ⟨rfl, hk⟩ | ⟨g, cap, cur, rfl, hg, hh, hn, hm, hs, ht⟩
  · have hf : f = [] := List.eq_nil_of_length_eq_zero (by omega)
    subst hf
    exact ⟨none, 0, fun _ => .nilFunc, rfl, by simp, by simp [maxLen], fun h => absurd h (by simp), fun i hi => absurd hi (by simp)⟩
  · subst hlen
    refine ⟨_, cap, fun i => vals.getD i .nilFunc, rfl, hn, hm, fun h0 => ⟨g, 0, rfl, hok g hg, fun i hi => ?_⟩, hrow⟩
    have h1 : i < vals.length := by omega
    have := hcells g rfl i vals[i] (List.getElem?_eq_getElem h1)
    have hadd : (⟨g, 0, none⟩ : Addr).add i = ⟨g, 0 + i, none⟩ := by unfold Addr.add; split <;> simp_all
    rw [hadd] at this
    simpa [List.getElem?_eq_getElem h1] using this

theorem bytesK_of_own {W : World} {base : Nat} {e : TypeId} {v : Value} {k : Nat} {xs : List Nat} {ok : Nat → Prop} (hown : W.ownsRow base e 1 v k (u8s xs)) (h256 : ∀ x ∈ xs, x < 256) (hok : ∀ b, base ≤ b → ok b) : RBytesK W ok v xs := by
  have hl : xs.length = k := by simpa [u8s] using hown.1
  have hcells : ∀ (g : Nat), v.ownBlock = some g → ∀ j u, (u8s xs)[j]? = some u → W.cell? ((⟨g, 0, none⟩ : Addr).add j) = some u := fun g hg => hown.cells hg
  rcases hown.2 with ⟨rfl, hk⟩ | ⟨g, cap, cur, rfl, hg, hh, hn, hm, hs, ht⟩
  · have hf : xs = [] := List.eq_nil_of_length_eq_zero (by omega)
    subst hf
    exact ⟨none, 0, rfl, by simp, by simp [maxLen], by simp, fun h => absurd h (by simp)⟩
  · subst hl
    refine ⟨_, cap, rfl, hn, hm, h256, fun h0 => ⟨g, 0, rfl, hok g hg, fun i hi => ?_⟩⟩
    have := hcells g rfl i (.int .u8 (nth xs i : Nat)) (by simp [u8s, nth, hi])
    have hadd : (⟨g, 0, none⟩ : Addr).add i = ⟨g, 0 + i, none⟩ := by unfold Addr.add; split <;> simp_all
    rwa [hadd] at this

theorem bytes_of_own {W : World} {base : Nat} {e : TypeId} {v : Value} {k : Nat} {xs : List Nat} (hown : W.ownsRow base e 1 v k (u8s xs)) (h256 : ∀ x ∈ xs, x < 256) : RBytes W W.heap.size v xs :=
  (bytesK_of_own (ok := fun _ => True) hown h256 (fun _ _ => trivial)).plain

theorem news_of_cells {w : World} {B : Nat} {ad : Addr} {n : Nat} {f : Nat → Value} (h : Cells w B (some ad) n f) : ∀ j u, ((List.range n).map f)[j]? = some u → w.cell? (ad.add j) = some u := by
  intro j u hu
  have hj : j < n := by
    rcases Nat.lt_or_ge j n with h | h
    · exact h
    · rw [List.getElem?_eq_none (by simpa using h)] at hu; cases hu
  obtain ⟨b, o, hA, hb, hc⟩ := h (by omega)
  cases hA
  have hadd : (⟨b, o, none⟩ : Addr).add j = ⟨b, o + j, none⟩ := by unfold Addr.add; split <;> simp_all
  rw [hadd, hc j hj]
  simpa [hj] using hu

theorem clone8_any (A : Option Addr) (n c : Nat) (f : Nat → Value) (w : World) (hcs : Cells w w.heap.size A n f) (h1 : ∀ i, i < n → (f i).oneCell' = true) (hn : n ≤ 1000) :
    Calls Try.prog 35 #[.slice A n c] w fun e w' => ∃ v', e = .returned v' ∧ w'.ownsRow w.heap.size 5 1 v' n ((List.range n).map f) ∧ Below w.heap.size w w' := by
  cases A with
  | none =>
    have h0 : n = 0 := by
      rcases Nat.eq_zero_or_pos n with h | h
      · exact h
      · obtain ⟨b, o, hA, _⟩ := hcs h; cases hA
    subst h0
    clear hcs h1
    have heq := fun w => Lib.run_eql_slice_nil (P := Try.prog) w 26 5 none 0 c 0 0 Try.underlying26
    go_enter Try.func35, Try.ntmps35
    go_wp2
    go_ret
    exact ⟨_, rfl, World.ownsRow_nil _ _ _ _, Below.refl _ _⟩
  | some ad =>
    have HC := Lib.hid hcs
    have HO := Lib.hid h1
    clear hcs h1
    have heq := fun w => Lib.run_eql_slice_nil (P := Try.prog) w 26 5 (some ad) n c 0 0 Try.underlying26
    obtain ⟨i0, hi0, hz0, hz1, hz2⟩ := info_parts infoU8
    have hown : (w.alloc (Obj.cells #[] 5)).ownsRow w.heap.size 5 1 (.slice (some ⟨w.heap.size, 0, none⟩) 0 0) 0 [] := World.ownsRow_made w #[] 0 (Nat.le_refl _) (by simp [maxLen]) (by simp)
    go_enter Try.func35, Try.ntmps35
    go_wp2_with (at_builtin; refine wpList_append_own _ rfl _ _ 26 rfl w.heap.size 5 i0 _ 1 1 Try.underlying26 hi0 hz0 hz1 hz2 rfl (by decide) (.slice (some ⟨w.heap.size, 0, none⟩) 0 0) 0 [] rfl hown ad n c ((List.range n).map f) rfl (by simp) (news_of_cells (HC.out.below (Below.new _))) (by simpa using HO.out) (by unfold maxLen; omega) (by omega) (by simp) ?_; intro v' w1 hown1 hgrow _)
    go_ret
    refine ⟨_, rfl, by simpa using hown1, ((Below.new _).grown hgrow (by simp) ?_)⟩
    intro k hk
    have e : w.heap.size = k := by simpa [Value.ownBlock] using hk
    omega

theorem cloneR_any (A : Option Addr) (n c : Nat) (f : Nat → Value) (w : World) (hcs : Cells w w.heap.size A n f) (h1 : ∀ i, i < n → (f i).oneCell' = true) (hn : n ≤ 1000) :
    Calls Try.prog 34 #[.slice A n c] w fun e w' => ∃ v', e = .returned v' ∧ w'.ownsRow w.heap.size 26 1 v' n ((List.range n).map f) ∧ Below w.heap.size w w' := by
  cases A with
  | none =>
    have h0 : n = 0 := by
      rcases Nat.eq_zero_or_pos n with h | h
      · exact h
      · obtain ⟨b, o, hA, _⟩ := hcs h; cases hA
    subst h0
    clear hcs h1
    have heq := fun w => Lib.run_eql_slice_nil (P := Try.prog) w 22 26 none 0 c 0 0 Try.underlying22
    go_enter Try.func34, Try.ntmps34
    go_wp2
    go_ret
    exact ⟨_, rfl, World.ownsRow_nil _ _ _ _, Below.refl _ _⟩
  | some ad =>
    have HC := Lib.hid hcs
    have HO := Lib.hid h1
    clear hcs h1
    have heq := fun w => Lib.run_eql_slice_nil (P := Try.prog) w 22 26 (some ad) n c 0 0 Try.underlying22
    obtain ⟨i0, hi0, hz0, hz1, hz2⟩ := info_parts infoBytes
    have hown : (w.alloc (Obj.cells #[] 26)).ownsRow w.heap.size 26 1 (.slice (some ⟨w.heap.size, 0, none⟩) 0 0) 0 [] := World.ownsRow_made w #[] 0 (Nat.le_refl _) (by simp [maxLen]) (by simp)
    go_enter Try.func34, Try.ntmps34
    go_wp2_with (at_builtin; refine wpList_append_own _ rfl _ _ 22 rfl w.heap.size 26 i0 _ 1 24 Try.underlying22 hi0 hz0 hz1 hz2 rfl (by decide) (.slice (some ⟨w.heap.size, 0, none⟩) 0 0) 0 [] rfl hown ad n c ((List.range n).map f) rfl (by simp) (news_of_cells (HC.out.below (Below.new _))) (by simpa using HO.out) (by unfold maxLen; omega) (by omega) (by simp) ?_; intro v' w1 hown1 hgrow _)
    go_ret
    refine ⟨_, rfl, by simpa using hown1, ((Below.new _).grown hgrow (by simp) ?_)⟩
    intro k hk
    have e : w.heap.size = k := by simpa [Value.ownBlock] using hk
    omega

end Go.Proofs.Ytnahokblbpppeaa
