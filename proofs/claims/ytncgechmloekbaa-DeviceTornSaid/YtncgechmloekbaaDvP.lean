/- Device: the laws' sanity: plain facts. -/
import Derived.Test.YtncgechmloekbaaDvO
import Derived.Test.YtncgechmloekbaaFzN
namespace Go.Proofs.Ytncgechmloekbaa.Dv
open Go.RowKit

def F0 : List (List Nat) := Fz.newF [2, 1]
def M0 : List ByteArray := Fm.Fl.newF 128
def r5 : Nat → Int := fun i => if i = 0 then 5 else 0
def M1 : List ByteArray := Fm.Fl.write M0 1 (Fm.Fl.full 97) 3
def F1 : List (List Nat) := Fz.pulse F0 1 2 true
def B1 : ByteArray := ⟨#[97, 97, 97]⟩ ++ (Fm.Fl.full 0).extract 3 256
theorem ok0 : Fz.newOK [2, 1] = true := by decide
theorem s0 : Fz.newE [2, 1] = 0 := by decide
theorem s1 : newFlash [2, 1] = M0 := by rw [newFlash, ok0, if_pos rfl]; rfl
theorem s2 : newRoot [2, 1] r5 = r5 := by rw [newRoot, ok0, if_pos rfl]
theorem len0 : M0.length = 128 := by
  have h : ∀ (n : Nat) (x : ByteArray), (List.replicate n x).length = n := fun n x => List.length_replicate
  rw [M0, Fm.Fl.newF, if_pos (by decide)]
  exact h _ _
theorem at0 {k : Nat} (hk : k < 128) : Fm.nthS M0 k = Fm.Fl.full 0 := by
  have h : ∀ (n : Nat) (x : ByteArray), k < n → Fm.nthS (List.replicate n x) k = x := fun n x h => by simp [Fm.nthS, h]
  rw [M0, Fm.Fl.newF, if_pos (by decide)]
  exact h _ _ hk
theorem has0 : Fm.Fl.has M0 1 = true := by simp [Fm.Fl.has, len0]
theorem wE : Fm.Fl.writeE M0 1 (Fm.Fl.full 97) = 0 := by rw [Fm.Fl.writeE, has0, if_pos rfl, if_pos (Fm.Fl.full_size 97)]
theorem len1 : M1.length = 128 := by rw [M1, Fm.Fl.write_length, len0]
theorem has1 : Fm.Fl.has M1 1 = true := by simp [Fm.Fl.has, len1]
theorem m1_eq : M1 = M0.set 1 (Fm.Fl.merge (Fm.Fl.full 0) (Fm.Fl.full 97) 3) := by
  have h := Fm.Fl.write_yes_eq (f := M0) (k := 1) (b := Fm.Fl.full 97) 3 (by rw [len0]; decide) (Fm.Fl.full_size 97)
  rw [at0 (by decide)] at h
  exact h
theorem mg : Fm.Fl.merge (Fm.Fl.full 0) (Fm.Fl.full 97) 3 = B1 := by decide +kernel
theorem rV : Fm.Fl.readV M1 1 = B1 := by
  rw [Fm.Fl.readV, has1, if_pos rfl]
  show Fm.nthS M1 1 = B1
  rw [m1_eq, Fm.Fl.nthS_set_eq _ (by rw [len0]; decide), mg]
theorem ne01 : M0 ≠ M1 := by
  intro e
  have h := congrArg (fun m => Fm.nthS m 1) e
  have h2 : Fm.nthS M1 1 = B1 := by rw [m1_eq, Fm.Fl.nthS_set_eq _ (by rw [len0]; decide), mg]
  simp only [h2, at0 (show 1 < 128 by decide)] at h
  exact absurd h (by decide +kernel)
theorem small0 : Fz.small F0 := by unfold Fz.small; decide
theorem small1 : Fz.small F1 := by unfold Fz.small; decide
theorem done1 : doneB F0 M0 4 0 1 (Fm.Fl.full 97) = true := by simp [doneB, kindOK, runE, wE]
theorem e1 : doE F0 M0 4 0 1 (Fm.Fl.full 97) = 0 := by simp [doE, kindOK, runE, wE]
theorem f1 : doF F0 M0 4 0 1 (Fm.Fl.full 97) true = F0 := by simp [doF, runF]
theorem m1 : doM F0 M0 4 0 1 (Fm.Fl.full 97) true 3 = M1 := by
  rw [doM, done1, if_pos rfl, runM, if_pos rfl]
  exact congrArg (Fm.Fl.write M0 1 (Fm.Fl.full 97)) (show cutOf true 3 = 3 by decide)
theorem v1 : doV F0 M0 4 0 1 (Fm.Fl.full 97) true false = 0 := by simp [doV]
theorem b1 : doB F0 M0 4 0 1 (Fm.Fl.full 97) true = ⟨#[]⟩ := by simp [doB]
theorem emp : isEmpty ⟨#[]⟩ = true := by decide +kernel
theorem done2 : doneB F0 M1 3 0 1 ⟨#[]⟩ = true := by simp [doneB, kindOK, runE, emp, Fm.Fl.readE, has1]
theorem e2 : doE F0 M1 3 0 1 ⟨#[]⟩ = 0 := by simp [doE, kindOK, runE, emp, Fm.Fl.readE, has1]
theorem f2 : doF F0 M1 3 0 1 ⟨#[]⟩ false = F0 := by simp [doF, runF]
theorem m2 : doM F0 M1 3 0 1 ⟨#[]⟩ false 0 = M1 := by simp [doM, runM]
theorem v2 : doV F0 M1 3 0 1 ⟨#[]⟩ false false = 0 := by simp [doV, runV]
theorem b2 : doB F0 M1 3 0 1 ⟨#[]⟩ false = B1 := by simp [doB, done2, runB, rV]
theorem rE0 : Fz.readE F0 1 2 = 0 := by decide
theorem rE1 : Fz.readE F1 1 2 = 0 := by decide
theorem done3 : doneB F0 M1 2 1 2 ⟨#[]⟩ = true := by simp [doneB, kindOK, runE, emp, rE0]
theorem e3 : doE F0 M1 2 1 2 ⟨#[]⟩ = 0 := by simp [doE, kindOK, runE, emp, rE0]
theorem f3 : doF F0 M1 2 1 2 ⟨#[]⟩ true = F1 := by rw [doF, done3, if_pos rfl]; rfl
theorem m3 : doM F0 M1 2 1 2 ⟨#[]⟩ true 0 = M1 := by simp [doM, runM]
theorem v3 : doV F0 M1 2 1 2 ⟨#[]⟩ true false = 0 := by simp [doV]
theorem b3 : doB F0 M1 2 1 2 ⟨#[]⟩ true = ⟨#[]⟩ := by simp [doB]
theorem done4 : doneB F1 M1 1 1 2 ⟨#[]⟩ = true := by simp [doneB, kindOK, runE, emp, rE1]
theorem e4 : doE F1 M1 1 1 2 ⟨#[]⟩ = 0 := by simp [doE, kindOK, runE, emp, rE1]
theorem f4 : doF F1 M1 1 1 2 ⟨#[]⟩ false = F1 := by simp [doF, runF]
theorem m4 : doM F1 M1 1 1 2 ⟨#[]⟩ false 0 = M1 := by simp [doM, runM]
theorem v4 : doV F1 M1 1 1 2 ⟨#[]⟩ false true = 1 := by
  rw [doV, done4]
  show Fz.readV F1 1 2 true = 1
  decide
theorem v5 : doV F1 M1 1 1 2 ⟨#[]⟩ false false = 0 := by
  rw [doV, done4]
  show Fz.readV F1 1 2 false = 0
  decide
theorem b4 : doB F1 M1 1 1 2 ⟨#[]⟩ false = ⟨#[]⟩ := by simp [doB, runB]
theorem k6 : kindOK 5 0 ⟨#[]⟩ = false := by simp [kindOK]
theorem e6 : doE F0 M0 5 0 0 ⟨#[]⟩ = 1 := by simp [doE, k6]
theorem f6 : doF F0 M0 5 0 0 ⟨#[]⟩ false = F0 := by simp [doF, doneB, k6]
theorem m6 : doM F0 M0 5 0 0 ⟨#[]⟩ false 0 = M0 := by simp [doM, doneB, k6]
theorem v6 : doV F0 M0 5 0 0 ⟨#[]⟩ false false = 0 := by simp [doV, doneB, k6]
theorem b6 : doB F0 M0 5 0 0 ⟨#[]⟩ false = ⟨#[]⟩ := by simp [doB, doneB, k6]
theorem rr : rootEq r5 r5 = true := by decide
theorem rootEq_refl (r : Nat → Int) : rootEq r r = true := by simp [rootEq]
theorem fsame_refl (f : List (List Nat)) : Fz.same f f = true := by simp [Fz.same]
theorem hsame_refl (f : List (List Nat)) (m : List ByteArray) (r : Nat → Int) : hwSame f f m m r r = true := by
  simp [hwSame, rootEq_refl, fsame_refl, Fm.Fl.same_refl]
theorem hne : hwSame F0 F0 M0 M1 r5 r5 = false := by
  have : Fm.Fl.same M0 M1 = false := by simp [Fm.Fl.same, ne01]
  simp [hwSame, this]
theorem root5 : rootOf r5 = #[.int .u8 5, .int .u8 0, .int .u8 0, .int .u8 0, .int .u8 0, .int .u8 0, .int .u8 0, .int .u8 0, .int .u8 0, .int .u8 0, .int .u8 0, .int .u8 0, .int .u8 0, .int .u8 0, .int .u8 0, .int .u8 0] := rfl

end Go.Proofs.Ytncgechmloekbaa.Dv
