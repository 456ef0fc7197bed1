/- Fuses: slices.Clone at both types. -/
import Derived.Test.YtncgechmloekbaaFzM
namespace Go.Proofs.Ytncgechmloekbaa
open Go.RowKit

theorem own_below {W W' : World} {base : Nat} {e : TypeId} {sz : Nat} {v : Value} {k : Nat} {xs : List Value} (h : W.ownsRow base e sz v k xs) (hb : Below W.heap.size W W') : W'.ownsRow base e sz v k xs := by
  refine ⟨h.1, ?_⟩
  rcases h.2 with h | ⟨g, cap, cur, rfl, h1, h2, h3⟩
  · exact .inl h
  · exact .inr ⟨g, cap, cur, rfl, h1, (hb.block g (lt_of_block h2)).trans h2, h3⟩

def u8s (xs : List Nat) : List Value := xs.map fun x => .int .u8 (x : Nat)

theorem bytesK_of_own {W : World} {base : Nat} {e : TypeId} {v : Value} {k : Nat} {xs : List Nat} {ok : Nat → Prop} (hown : W.ownsRow base e 1 v k (u8s xs)) (h256 : ∀ x ∈ xs, x < 256) (hok : ∀ b, base ≤ b → ok b) : RBytesK W ok v xs := by
  have hl : xs.length = k := by simpa [u8s] using hown.1
  have hcells : ∀ (g : Nat), v.ownBlock = some g → ∀ j u, (u8s xs)[j]? = some u → W.cell? ((⟨g, 0, none⟩ : Addr).add j) = some u := fun g hg => hown.cells hg
  rcases hown.2 with ⟨rfl, hk⟩ | ⟨g, cap, cur, rfl, hg, hh, hn, hm, hs, ht⟩
  · have hf : xs = [] := List.eq_nil_of_length_eq_zero (by omega)
    subst hf
    exact ⟨none, 0, rfl, by simp, by simp [maxLen], by simp, fun h => absurd h (by simp)⟩
  · subst hl
    refine ⟨_, cap, rfl, hn, hm, h256, fun h0 => ⟨g, 0, rfl, hok g hg, fun i hi => ?_⟩⟩
    have := hcells g rfl i (.int .u8 (nth xs i : Nat)) (by simp [u8s, nth, hi])
    have hadd : (⟨g, 0, none⟩ : Addr).add i = ⟨g, 0 + i, none⟩ := by unfold Addr.add; split <;> simp_all
    rwa [hadd] at this

theorem bytes_of_own {W : World} {base : Nat} {e : TypeId} {v : Value} {k : Nat} {xs : List Nat} (hown : W.ownsRow base e 1 v k (u8s xs)) (h256 : ∀ x ∈ xs, x < 256) : RBytes W W.heap.size v xs :=
  (bytesK_of_own (ok := fun _ => True) hown h256 (fun _ _ => trivial)).plain

theorem news_of_cells {w : World} {B : Nat} {ad : Addr} {n : Nat} {f : Nat → Value} (h : Cells w B (some ad) n f) : ∀ j u, ((List.range n).map f)[j]? = some u → w.cell? (ad.add j) = some u := by
  intro j u hu
  have hj : j < n := by
    rcases Nat.lt_or_ge j n with h | h
    · exact h
    · rw [List.getElem?_eq_none (by simpa using h)] at hu; cases hu
  obtain ⟨b, o, hA, hb, hc⟩ := h (by omega)
  cases hA
  have hadd : (⟨b, o, none⟩ : Addr).add j = ⟨b, o + j, none⟩ := by unfold Addr.add; split <;> simp_all
  rw [hadd, hc j hj]
  simpa [hj] using hu

set_option maxRecDepth 100000 in
theorem clone8_any (A : Option Addr) (n c : Nat) (f : Nat → Value) (w : World) (hcs : Cells w w.heap.size A n f) (h1 : ∀ i, i < n → (f i).oneCell' = true) (hn : n ≤ 1000) :
    Calls Try.prog 57 #[.slice A n c] w fun e w' => ∃ v', e = .returned v' ∧ w'.ownsRow w.heap.size 5 1 v' n ((List.range n).map f) ∧ Below w.heap.size w w' := by
  cases A with
  | none =>
    have h0 : n = 0 := by
      rcases Nat.eq_zero_or_pos n with h | h
      · exact h
      · obtain ⟨b, o, hA, _⟩ := hcs h; cases hA
    subst h0
    clear hcs h1
    have heq := fun w => Lib.run_eql_slice_nil (P := Try.prog) w 56 5 none 0 c 0 0 Try.underlying56
    go_enter Try.func57, Try.ntmps57
    go_wp2
    go_ret
    exact ⟨_, rfl, World.ownsRow_nil _ _ _ _, Below.refl _ _⟩
  | some ad =>
    have HC := Lib.hid hcs
    have HO := Lib.hid h1
    clear hcs h1
    have heq := fun w => Lib.run_eql_slice_nil (P := Try.prog) w 56 5 (some ad) n c 0 0 Try.underlying56
    obtain ⟨i0, hi0, hz0, hz1, hz2⟩ := info_parts infoU8
    have hown : (w.alloc (Obj.cells #[] 5)).ownsRow w.heap.size 5 1 (.slice (some ⟨w.heap.size, 0, none⟩) 0 0) 0 [] := World.ownsRow_made w #[] 0 (Nat.le_refl _) (by simp [maxLen]) (by simp)
    go_enter Try.func57, Try.ntmps57
    go_wp2_with (at_builtin; refine wpList_append_own _ rfl _ _ 56 rfl w.heap.size 5 i0 _ 1 1 Try.underlying56 hi0 hz0 hz1 hz2 rfl (by decide) (.slice (some ⟨w.heap.size, 0, none⟩) 0 0) 0 [] rfl hown ad n c ((List.range n).map f) rfl (by simp) (news_of_cells (HC.out.below (Below.new _))) (by simpa using HO.out) (by unfold maxLen; omega) (by omega) (by simp) ?_; intro v' w1 hown1 hgrow _)
    go_ret
    refine ⟨_, rfl, by simpa using hown1, ((Below.new _).grown hgrow (by simp) ?_)⟩
    intro k hk
    have e : w.heap.size = k := by simpa [Value.ownBlock] using hk
    omega

set_option maxRecDepth 100000 in
theorem cloneR_any (A : Option Addr) (n c : Nat) (f : Nat → Value) (w : World) (hcs : Cells w w.heap.size A n f) (h1 : ∀ i, i < n → (f i).oneCell' = true) (hn : n ≤ 1000) :
    Calls Try.prog 56 #[.slice A n c] w fun e w' => ∃ v', e = .returned v' ∧ w'.ownsRow w.heap.size 56 1 v' n ((List.range n).map f) ∧ Below w.heap.size w w' := by
  cases A with
  | none =>
    have h0 : n = 0 := by
      rcases Nat.eq_zero_or_pos n with h | h
      · exact h
      · obtain ⟨b, o, hA, _⟩ := hcs h; cases hA
    subst h0
    clear hcs h1
    have heq := fun w => Lib.run_eql_slice_nil (P := Try.prog) w 22 56 none 0 c 0 0 Try.underlying22
    go_enter Try.func56, Try.ntmps56
    go_wp2
    go_ret
    exact ⟨_, rfl, World.ownsRow_nil _ _ _ _, Below.refl _ _⟩
  | some ad =>
    have HC := Lib.hid hcs
    have HO := Lib.hid h1
    clear hcs h1
    have heq := fun w => Lib.run_eql_slice_nil (P := Try.prog) w 22 56 (some ad) n c 0 0 Try.underlying22
    obtain ⟨i0, hi0, hz0, hz1, hz2⟩ := info_parts infoBytes
    have hown : (w.alloc (Obj.cells #[] 56)).ownsRow w.heap.size 56 1 (.slice (some ⟨w.heap.size, 0, none⟩) 0 0) 0 [] := World.ownsRow_made w #[] 0 (Nat.le_refl _) (by simp [maxLen]) (by simp)
    go_enter Try.func56, Try.ntmps56
    go_wp2_with (at_builtin; refine wpList_append_own _ rfl _ _ 22 rfl w.heap.size 56 i0 _ 1 24 Try.underlying22 hi0 hz0 hz1 hz2 rfl (by decide) (.slice (some ⟨w.heap.size, 0, none⟩) 0 0) 0 [] rfl hown ad n c ((List.range n).map f) rfl (by simp) (news_of_cells (HC.out.below (Below.new _))) (by simpa using HO.out) (by unfold maxLen; omega) (by omega) (by simp) ?_; intro v' w1 hown1 hgrow _)
    go_ret
    refine ⟨_, rfl, by simpa using hown1, ((Below.new _).grown hgrow (by simp) ?_)⟩
    intro k hk
    have e : w.heap.size = k := by simpa [Value.ownBlock] using hk
    omega

end Go.Proofs.Ytncgechmloekbaa
