/- Chapter 29, the walk: at and operators of package lex. -/
import Derived.Test.YtdolpmmnjndfkaaGreatDoorPoTok
import Derived.Test.YtdolpmmnjndfkaaGreatDoorPoLxA
import Derived.Deep.Cut
namespace Go.Proofs.YtdolpmmnjndfkaaGreatDoor
open Go.RowKit
theorem snoc_cases {α : Type} (l : List α) : l = [] ∨ ∃ m x, l = m ++ [x] := by
  rcases List.eq_nil_or_concat l with h | ⟨m, x, h⟩
  · exact .inl h
  · exact .inr ⟨m, x, by simpa using h⟩
set_option maxRecDepth 1000000 in
theorem lx_at {B : Nat} (v : Value) (ks : List (Po.Tok × Nat)) (w : World) (h : w.ownsRow B 62 4 v ks.length (toksFlat ks)) (hp : endPos ks < 4294967296) :
    Calls Tryz.prog 44 #[v] w fun e w' => e = .returned (.int .i64 (endPos ks : Nat)) ∧ Below w.heap.size w w' := by
  rcases snoc_cases ks with hk | ⟨m, p, hk⟩
  · subst hk
    obtain ⟨A, c, hv, h1, h2, -⟩ := RToks.of_own h
    have H := Lib.hid (show endPos [] = 0 from rfl)
    simp only [List.map_nil, List.length_nil] at hv
    subst hv
    clear h hp
    go_enter Tryz.func44, Tryz.ntmps44
    go_wp2_with fail
    go_ret
    exact ⟨by rw [H.out]; rfl, Below.refl _ _⟩
  · subst hk
    have hlen : (m ++ [p]).length = m.length + 1 := by simp
    rw [hlen] at h
    obtain ⟨g, cap, hv, hg, hlt, hc, hm, hx⟩ := own_cells h (by omega)
    subst hv
    have hat : (m ++ [p])[m.length]? = some p := by simp
    have c0 := hx (m.length * 4) _ (toksFlat_at _ m.length p 0 _ hat rfl)
    have c1 := hx (m.length * 4 + 1) _ (toksFlat_at _ m.length p 1 _ hat rfl)
    have c2 := hx (m.length * 4 + 2) _ (toksFlat_at _ m.length p 2 _ hat rfl)
    have c3 := hx (m.length * 4 + 3) _ (toksFlat_at _ m.length p 3 _ hat rfl)
    have hE : endPos (m ++ [p]) = p.2 + p.1.t.length := endPos_snoc m p
    have HE := Lib.hid hE
    have hp' : p.2 + p.1.t.length < 4294967296 := by rw [← hE]; exact hp
    clear hx h hat hE hp
    have q1 : wrap64 (m.length : Int) = m.length := by unfold wrap64; unfold maxLen at hm; omega
    have q2 : (0 : Int) ≤ (m.length : Int) ∧ (m.length : Int) < (m.length : Int) + 1 := by omega
    have q3 : wrap64 ((p.2 : Int) + (p.1.t.length : Int)) = ((p.2 + p.1.t.length : Nat) : Int) := by unfold wrap64; omega
    clear hm hlen hg hp'
    go_enter Tryz.func44, Tryz.ntmps44
    go_wp2_with fail
    go_ret
    exact ⟨by rw [HE.out]; exact ret_int q3, Below.new _⟩

def opsVal : Array Value := #[.string ⟨#[61, 61]⟩, .string ⟨#[38, 38]⟩, .string ⟨#[124, 124]⟩, .string ⟨#[62, 61]⟩, .string ⟨#[123]⟩, .string ⟨#[125]⟩, .string ⟨#[40]⟩, .string ⟨#[41]⟩, .string ⟨#[59]⟩, .string ⟨#[61]⟩, .string ⟨#[43]⟩, .string ⟨#[45]⟩, .string ⟨#[42]⟩, .string ⟨#[60]⟩, .string ⟨#[33]⟩]
theorem lx_operators (w : World) :
    Calls Tryz.prog 50 #[] w fun e w' => e = .returned (.agg opsVal) ∧ Below w.heap.size w w' := by
  unfold opsVal
  go_enter Tryz.func50, Tryz.ntmps50
  go_wp2_with fail
  refine bodyPost_ret (v := .agg #[.string ⟨#[61, 61]⟩, .string ⟨#[38, 38]⟩, .string ⟨#[124, 124]⟩, .string ⟨#[62, 61]⟩, .string ⟨#[123]⟩, .string ⟨#[125]⟩, .string ⟨#[40]⟩, .string ⟨#[41]⟩, .string ⟨#[59]⟩, .string ⟨#[61]⟩, .string ⟨#[43]⟩, .string ⟨#[45]⟩, .string ⟨#[42]⟩, .string ⟨#[60]⟩, .string ⟨#[33]⟩]) ?_ rfl ⟨rfl, ?_⟩
  · simp [results, Tryz.results50, go_sem, asAddr]
  · exact Below.new _
end Go.Proofs.YtdolpmmnjndfkaaGreatDoor
