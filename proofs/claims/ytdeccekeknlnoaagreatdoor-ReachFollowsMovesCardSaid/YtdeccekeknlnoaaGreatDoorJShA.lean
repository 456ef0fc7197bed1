/- Chapter 38: rotations of package sha. | Chapter 38: package sha: three rotations combined. | Chapter 38: package sha in plain words, and what its arrays of words hold in memory. -/
import Derived.Test.YtdeccekeknlnoaaGreatDoorJPoMem
import Derived.Handy
namespace Go.Proofs.YtdeccekeknlnoaaGreatDoor
open Go.RowKit
/-- words of 32 bits -/
def sl32 (x : Int) (n : Nat) : Int := x * 2 ^ n % 4294967296
def sr32 (x : Int) (n : Nat) : Int := x / 2 ^ n
def xor32 (x y : Int) : Int := bits .xor .u32 x y
def and32 (x y : Int) : Int := bits .and .u32 x y
def or32 (x y : Int) : Int := bits .or .u32 x y
def add32 (x y : Int) : Int := IntKind.u32.wrap (x + y)
def rot (x : Int) (n : Nat) : Int := or32 (sl32 x (32 - n)) (sr32 x n)
def rots (x : Int) (ns : List Nat) : Int := ns.foldl (fun out n => xor32 out (rot x n)) 0
theorem run_xor32 (x y : Int) (w : World) : Sem.run Tryz.prog (binOp .xor 175 (.int .u32 x) (.int .u32 y)) w = .ok (.int .u32 (xor32 x y)) w := rfl
theorem run_and32 (x y : Int) (w : World) : Sem.run Tryz.prog (binOp .and 175 (.int .u32 x) (.int .u32 y)) w = .ok (.int .u32 (and32 x y)) w := rfl
theorem run_or32 (x y : Int) (w : World) : Sem.run Tryz.prog (binOp .or 175 (.int .u32 x) (.int .u32 y)) w = .ok (.int .u32 (or32 x y)) w := rfl
theorem run_add32 (x y : Int) (w : World) : Sem.run Tryz.prog (binOp .add 175 (.int .u32 x) (.int .u32 y)) w = .ok (.int .u32 (add32 x y)) w := rfl
set_option maxRecDepth 100000 in
theorem rl_7 (x : Int) (w : World) :
    Calls Tryz.prog 173 #[.int .u32 x, .int .i64 (-7)] w fun e w' => e = .returned (.int .u32 (rot x 7)) ∧ w' = w := by
  have e1 : bits BinOp.and IntKind.u64 (IntKind.u64.wrap (-7)) 31 = 25 := by kernel_rfl
  go_enter Tryz.func173, Tryz.ntmps173
  go_wp2
  go_ret
  exact ⟨by simp [rot, or32, sl32, sr32], rfl⟩
set_option maxRecDepth 100000 in
theorem rl_18 (x : Int) (w : World) :
    Calls Tryz.prog 173 #[.int .u32 x, .int .i64 (-18)] w fun e w' => e = .returned (.int .u32 (rot x 18)) ∧ w' = w := by
  have e1 : bits BinOp.and IntKind.u64 (IntKind.u64.wrap (-18)) 31 = 14 := by kernel_rfl
  go_enter Tryz.func173, Tryz.ntmps173
  go_wp2
  go_ret
  exact ⟨by simp [rot, or32, sl32, sr32], rfl⟩
set_option maxRecDepth 100000 in
theorem rl_17 (x : Int) (w : World) :
    Calls Tryz.prog 173 #[.int .u32 x, .int .i64 (-17)] w fun e w' => e = .returned (.int .u32 (rot x 17)) ∧ w' = w := by
  have e1 : bits BinOp.and IntKind.u64 (IntKind.u64.wrap (-17)) 31 = 15 := by kernel_rfl
  go_enter Tryz.func173, Tryz.ntmps173
  go_wp2
  go_ret
  exact ⟨by simp [rot, or32, sl32, sr32], rfl⟩
set_option maxRecDepth 100000 in
theorem rl_19 (x : Int) (w : World) :
    Calls Tryz.prog 173 #[.int .u32 x, .int .i64 (-19)] w fun e w' => e = .returned (.int .u32 (rot x 19)) ∧ w' = w := by
  have e1 : bits BinOp.and IntKind.u64 (IntKind.u64.wrap (-19)) 31 = 13 := by kernel_rfl
  go_enter Tryz.func173, Tryz.ntmps173
  go_wp2
  go_ret
  exact ⟨by simp [rot, or32, sl32, sr32], rfl⟩
set_option maxRecDepth 100000 in
theorem rl_6 (x : Int) (w : World) :
    Calls Tryz.prog 173 #[.int .u32 x, .int .i64 (-6)] w fun e w' => e = .returned (.int .u32 (rot x 6)) ∧ w' = w := by
  have e1 : bits BinOp.and IntKind.u64 (IntKind.u64.wrap (-6)) 31 = 26 := by kernel_rfl
  go_enter Tryz.func173, Tryz.ntmps173
  go_wp2
  go_ret
  exact ⟨by simp [rot, or32, sl32, sr32], rfl⟩
set_option maxRecDepth 100000 in
theorem rl_11 (x : Int) (w : World) :
    Calls Tryz.prog 173 #[.int .u32 x, .int .i64 (-11)] w fun e w' => e = .returned (.int .u32 (rot x 11)) ∧ w' = w := by
  have e1 : bits BinOp.and IntKind.u64 (IntKind.u64.wrap (-11)) 31 = 21 := by kernel_rfl
  go_enter Tryz.func173, Tryz.ntmps173
  go_wp2
  go_ret
  exact ⟨by simp [rot, or32, sl32, sr32], rfl⟩
set_option maxRecDepth 100000 in
theorem rl_25 (x : Int) (w : World) :
    Calls Tryz.prog 173 #[.int .u32 x, .int .i64 (-25)] w fun e w' => e = .returned (.int .u32 (rot x 25)) ∧ w' = w := by
  have e1 : bits BinOp.and IntKind.u64 (IntKind.u64.wrap (-25)) 31 = 7 := by kernel_rfl
  go_enter Tryz.func173, Tryz.ntmps173
  go_wp2
  go_ret
  exact ⟨by simp [rot, or32, sl32, sr32], rfl⟩
set_option maxRecDepth 100000 in
theorem rl_2 (x : Int) (w : World) :
    Calls Tryz.prog 173 #[.int .u32 x, .int .i64 (-2)] w fun e w' => e = .returned (.int .u32 (rot x 2)) ∧ w' = w := by
  have e1 : bits BinOp.and IntKind.u64 (IntKind.u64.wrap (-2)) 31 = 30 := by kernel_rfl
  go_enter Tryz.func173, Tryz.ntmps173
  go_wp2
  go_ret
  exact ⟨by simp [rot, or32, sl32, sr32], rfl⟩
set_option maxRecDepth 100000 in
theorem rl_13 (x : Int) (w : World) :
    Calls Tryz.prog 173 #[.int .u32 x, .int .i64 (-13)] w fun e w' => e = .returned (.int .u32 (rot x 13)) ∧ w' = w := by
  have e1 : bits BinOp.and IntKind.u64 (IntKind.u64.wrap (-13)) 31 = 19 := by kernel_rfl
  go_enter Tryz.func173, Tryz.ntmps173
  go_wp2
  go_ret
  exact ⟨by simp [rot, or32, sl32, sr32], rfl⟩
set_option maxRecDepth 100000 in
theorem rl_22 (x : Int) (w : World) :
    Calls Tryz.prog 173 #[.int .u32 x, .int .i64 (-22)] w fun e w' => e = .returned (.int .u32 (rot x 22)) ∧ w' = w := by
  have e1 : bits BinOp.and IntKind.u64 (IntKind.u64.wrap (-22)) 31 = 10 := by kernel_rfl
  go_enter Tryz.func173, Tryz.ntmps173
  go_wp2
  go_ret
  exact ⟨by simp [rot, or32, sl32, sr32], rfl⟩
end Go.Proofs.YtdeccekeknlnoaaGreatDoor

namespace Go.Proofs.YtdeccekeknlnoaaGreatDoor
open Go.RowKit
set_option maxRecDepth 100000 in
theorem rotr_7_18 (x : Int) (b c : Nat) (w : World) (h0 : w.cell? ⟨b, 0, none⟩ = some (.int .i64 7)) (h1 : w.cell? ⟨b, 1, none⟩ = some (.int .i64 18)) :
    Calls Tryz.prog 138 #[.int .u32 x, .slice (some ⟨b, 0, none⟩) 2 c] w fun e w' => e = .returned (.int .u32 (rots x [7, 18])) ∧ w' = w := by
  go_enter Tryz.func138, Tryz.ntmps138
  go_wp2
  refine wp_loop_rounds 3 ?_
  repeat any_goals (rw [rounds_succ]; go_wp2_with (go_at_call 173; (with_reducible first | (refine (rl_7 _ _).mono ?_) | (refine (rl_18 _ _).mono ?_)); rintro e w' ⟨rfl, rfl⟩))
  go_ret
  exact ⟨by simp [rots, xor32], rfl⟩
set_option maxRecDepth 100000 in
theorem rotr_17_19 (x : Int) (b c : Nat) (w : World) (h0 : w.cell? ⟨b, 0, none⟩ = some (.int .i64 17)) (h1 : w.cell? ⟨b, 1, none⟩ = some (.int .i64 19)) :
    Calls Tryz.prog 138 #[.int .u32 x, .slice (some ⟨b, 0, none⟩) 2 c] w fun e w' => e = .returned (.int .u32 (rots x [17, 19])) ∧ w' = w := by
  go_enter Tryz.func138, Tryz.ntmps138
  go_wp2
  refine wp_loop_rounds 3 ?_
  repeat any_goals (rw [rounds_succ]; go_wp2_with (go_at_call 173; (with_reducible first | (refine (rl_17 _ _).mono ?_) | (refine (rl_19 _ _).mono ?_)); rintro e w' ⟨rfl, rfl⟩))
  go_ret
  exact ⟨by simp [rots, xor32], rfl⟩
set_option maxRecDepth 100000 in
theorem rotr_6_11_25 (x : Int) (b c : Nat) (w : World) (h0 : w.cell? ⟨b, 0, none⟩ = some (.int .i64 6)) (h1 : w.cell? ⟨b, 1, none⟩ = some (.int .i64 11)) (h2 : w.cell? ⟨b, 2, none⟩ = some (.int .i64 25)) :
    Calls Tryz.prog 138 #[.int .u32 x, .slice (some ⟨b, 0, none⟩) 3 c] w fun e w' => e = .returned (.int .u32 (rots x [6, 11, 25])) ∧ w' = w := by
  go_enter Tryz.func138, Tryz.ntmps138
  go_wp2
  refine wp_loop_rounds 4 ?_
  repeat any_goals (rw [rounds_succ]; go_wp2_with (go_at_call 173; (with_reducible first | (refine (rl_6 _ _).mono ?_) | (refine (rl_11 _ _).mono ?_) | (refine (rl_25 _ _).mono ?_)); rintro e w' ⟨rfl, rfl⟩))
  go_ret
  exact ⟨by simp [rots, xor32], rfl⟩
set_option maxRecDepth 100000 in
theorem rotr_2_13_22 (x : Int) (b c : Nat) (w : World) (h0 : w.cell? ⟨b, 0, none⟩ = some (.int .i64 2)) (h1 : w.cell? ⟨b, 1, none⟩ = some (.int .i64 13)) (h2 : w.cell? ⟨b, 2, none⟩ = some (.int .i64 22)) :
    Calls Tryz.prog 138 #[.int .u32 x, .slice (some ⟨b, 0, none⟩) 3 c] w fun e w' => e = .returned (.int .u32 (rots x [2, 13, 22])) ∧ w' = w := by
  go_enter Tryz.func138, Tryz.ntmps138
  go_wp2
  refine wp_loop_rounds 4 ?_
  repeat any_goals (rw [rounds_succ]; go_wp2_with (go_at_call 173; (with_reducible first | (refine (rl_2 _ _).mono ?_) | (refine (rl_13 _ _).mono ?_) | (refine (rl_22 _ _).mono ?_)); rintro e w' ⟨rfl, rfl⟩))
  go_ret
  exact ⟨by simp [rots, xor32], rfl⟩
def or8 (n x : Int) : Int := or32 (sl32 n 8) x
def ld4 (a b c d : Int) : Int := or8 (or8 (or8 (or8 0 a) b) c) d
set_option maxRecDepth 100000 in
theorem load_any (b o c : Nat) (x0 x1 x2 x3 : Nat) (w : World) (l0 : x0 < 256) (l1 : x1 < 256) (l2 : x2 < 256) (l3 : x3 < 256)
    (h0 : w.cell? ⟨b, o, none⟩ = some (.int .u8 x0)) (h1 : w.cell? ⟨b, o + 1, none⟩ = some (.int .u8 x1)) (h2 : w.cell? ⟨b, o + 2, none⟩ = some (.int .u8 x2)) (h3 : w.cell? ⟨b, o + 3, none⟩ = some (.int .u8 x3)) :
    Calls Tryz.prog 137 #[.slice (some ⟨b, o, none⟩) 4 c] w fun e w' => e = .returned (.int .u32 (ld4 x0 x1 x2 x3)) ∧ w' = w := by
  go_enter Tryz.func137, Tryz.ntmps137
  go_wp2
  refine wp_loop_rounds 5 ?_
  repeat any_goals (rw [rounds_succ]; go_wp2)
  go_ret
  exact ⟨by simp [ld4, or8, or32, sl32], rfl⟩
end Go.Proofs.YtdeccekeknlnoaaGreatDoor

namespace Go.Proofs.YtdeccekeknlnoaaGreatDoor
open Go.RowKit
def gi (L : List Int) (i : Nat) : Int := L.getD i 0
/-- an array of n words of which the first are L, the others zero -/
def u32c (n : Nat) (L : List Int) : Array Value := ((L ++ List.replicate (n - L.length) 0).map fun x => Value.int .u32 x).toArray
theorem u32c_size {n : Nat} {L : List Int} (h : L.length ≤ n) : (u32c n L).size = n := by simp [u32c]; omega
theorem u32c_snoc {n : Nat} {L : List Int} {x : Int} (h : L.length < n) : (u32c n L).setIfInBounds L.length (.int .u32 x) = u32c n (L ++ [x]) := by
  apply Array.ext_getElem?
  intro i
  rw [Array.getElem?_setIfInBounds]
  simp only [u32c, List.getElem?_toArray, List.getElem?_map, List.size_toArray, List.length_map, List.length_append, List.length_replicate]
  by_cases e : L.length = i
  · subst e
    rw [if_pos rfl, if_pos (by omega)]
    simp
  · rw [if_neg e]
    congr 1
    by_cases hi : i < L.length
    · rw [List.getElem?_append_left hi, List.getElem?_append_left (by simp; omega), List.getElem?_append_left hi]
    · rw [List.getElem?_append_right (by omega), List.getElem?_append_right (by simp; omega)]
      simp only [List.getElem?_replicate, List.length_append, List.length_singleton]
      by_cases h2 : i < n
      · rw [if_pos (by omega), if_pos (by omega)]
      · rw [if_neg (by omega), if_neg (by omega)]
theorem u32_set {W : World} {r n k : Nat} {L : List Int} {x : Int} {t : TypeId} (h : W.heap[r]? = some (.cells (u32c n L) t (0, 0))) (hk : L.length = k) (hd : k < n) : (W.setCell ⟨r, k, none⟩ (.int .u32 x)).heap[r]? = some (.cells (u32c n (L ++ [x])) t (0, 0)) := by
  subst hk
  simp only [World.setCell, Array.getElem?_modify, h]
  simp [u32c_snoc hd]
theorem u32_cell {W : World} {r n i : Nat} {L : List Int} {t : TypeId} (h : W.heap[r]? = some (.cells (u32c n L) t (0, 0))) (hi : i < L.length) : W.cell? ⟨r, i, none⟩ = some (.int .u32 (gi L i)) := by
  simp only [World.cell?, h]
  simp [u32c, gi, hi, List.getElem?_append_left]
theorem u32_room {W : World} {r n i : Nat} {L : List Int} {t : TypeId} (h : W.heap[r]? = some (.cells (u32c n L) t (0, 0))) (hl : L.length ≤ n) (hi : i < n) : (∃ v, W.cell? ⟨r, i, none⟩ = some v) ∧ ∀ o, W.frozen? ⟨r, o, none⟩ = false := by
  constructor
  · simp only [World.cell?, h]
    exact ⟨_, by simp; exact Array.getElem?_eq_getElem (by rw [u32c_size hl]; exact hi)⟩
  · intro o
    simp [World.frozen?, h]
/-- the words of the schedule -/
def wnew (m : List Nat) (L : List Int) : Int :=
  if L.length < 16 then ld4 (nth m (4 * L.length)) (nth m (4 * L.length + 1)) (nth m (4 * L.length + 2)) (nth m (4 * L.length + 3))
  else add32 (add32 (add32 (gi L (L.length - 16)) (xor32 (rots (gi L (L.length - 15)) [7, 18]) (sr32 (gi L (L.length - 15)) 3))) (gi L (L.length - 7))) (xor32 (rots (gi L (L.length - 2)) [17, 19]) (sr32 (gi L (L.length - 2)) 10))
def wl (m : List Nat) : Nat → List Int
  | 0 => []
  | k + 1 => wl m k ++ [wnew m (wl m k)]
theorem wl_len (m : List Nat) : ∀ k, (wl m k).length = k
  | 0 => rfl
  | k + 1 => by simp [wl, wl_len m k]
/-- the eight words of the state -/
structure V8 where
  a : Int
  b : Int
  c : Int
  d : Int
  e : Int
  f : Int
  g : Int
  h : Int
def V8.cells (v : V8) : Array Value := #[.int .u32 v.a, .int .u32 v.b, .int .u32 v.c, .int .u32 v.d, .int .u32 v.e, .int .u32 v.f, .int .u32 v.g, .int .u32 v.h]
def V8.list (v : V8) : List Int := [v.a, v.b, v.c, v.d, v.e, v.f, v.g, v.h]
def not32 (x : Int) : Int := bits .xor .u32 IntKind.u32.max x
def V8.t (v : V8) (K W : Int) : Int := add32 (add32 (add32 (add32 v.h (rots v.e [6, 11, 25])) (xor32 (and32 v.e v.f) (and32 (not32 v.e) v.g))) K) W
def V8.u (v : V8) : Int := add32 (rots v.a [2, 13, 22]) (xor32 (xor32 (and32 v.a v.b) (and32 v.a v.c)) (and32 v.b v.c))
def V8.next (v : V8) (K W : Int) : V8 := ⟨add32 (v.t K W) v.u, v.a, v.b, v.c, add32 v.d (v.t K W), v.e, v.f, v.g⟩
def V8.add (v h : V8) : V8 := ⟨add32 v.a h.a, add32 v.b h.b, add32 v.c h.c, add32 v.d h.d, add32 v.e h.e, add32 v.f h.f, add32 v.g h.g, add32 v.h h.h⟩
def rnds (Ks Ws : List Int) (h : V8) : Nat → V8
  | 0 => h
  | k + 1 => (rnds Ks Ws h k).next (gi Ks k) (gi Ws k)
def compressV (Ks : List Int) (h : V8) (m : List Nat) : V8 := (rnds Ks (wl m 64) h 64).add h
end Go.Proofs.YtdeccekeknlnoaaGreatDoor
