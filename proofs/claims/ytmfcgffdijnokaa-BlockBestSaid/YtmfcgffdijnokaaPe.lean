/- contracts: counted, shifts, symbols of lengths and distances, counting, the writer of bits -/
import Derived.Test.YtmfcgffdijnokaaPd
set_option linter.unusedVariables false
set_option linter.unusedSimpArgs false
set_option linter.unusedSectionVars false
set_option maxRecDepth 100000
set_option maxHeartbeats 4000000
namespace Go.Proofs.Ytmfcgffdijnokaa
open Go.SL Go.RowKit
attribute [local irreducible] Wpl Wpc Wph
/-! plain functions on ints -/
theorem if_v {α : Type} {c : Prop} [Decidable c] {x y z : α} (h1 : c → z = x) (h2 : ¬ c → z = y) : z = if c then x else y := by split <;> simp_all

def reachM (s : Int) : Int × Int := if s = 16 then (3, 2) else if s = 17 then (3, 3) else if s = 18 then (11, 7) else (1, 0)
theorem reach_spec (s : Int) : PSpec Try.prog 97 [.int .i64 s] [] (.tuple #[.int .i64 (reachM s).1, .int .i64 (reachM s).2]) := by
  refine Ctr.intro Try.func97 (by kernel_rfl) rfl (by conv => lhs; whnf) rfl fun W => ?_
  repeat' (first | (apply Wpc.seqK; intro K hK) | apply Wpc.region | apply Wpl.nil | (apply hK; clear hK K) | (apply Wpl.mv; exact rfl; (conv => lhs; whnf)) | (apply Wpl.asg; exact rfl; (conv => lhs; whnf)) | (apply Wpc.cond_true; exact rfl) | (apply Wpc.cond_false; exact rfl) | apply Wpc.block | apply Wpc.skip | apply Wpc.ret | (apply Wpl.eql; exact rfl; exact rfl; exact rfl; all_goals (intro h; try (exfalso; omega))))
  all_goals refine ⟨[_, _], [], ⟨rfl, rfl, trivial⟩, Sel.nil _, fun _ h => h, ?_, rfl⟩
  · subst s; rfl
  · subst s; rfl
  · subst s; rfl
  · simp [reachM, *]; rfl

theorem counted_spec (n : Int) : PSpec Try.prog 135 [.int .i64 n] [] (.bool (decide (0 ≤ n ∧ n ≤ 32))) := by
  refine Ctr.intro Try.func135 (by kernel_rfl) rfl (by conv => lhs; whnf) rfl fun W => ?_
  repeat' (first | (apply Wpc.seqK; intro K hK) | apply Wpc.region | apply Wpl.nil | (apply hK; clear hK K) | (apply Wpl.mv; exact rfl; (conv => lhs; whnf)) | (apply Wpl.asg; exact rfl; (conv => lhs; whnf)) | (apply Wpl.guard_run; exact rfl; exact rfl) | (apply Wpl.guard_skip; exact rfl; exact rfl; exact rfl) | (apply Wpl.pickT; exact rfl; exact rfl; (conv => lhs; whnf)) | (apply Wpl.pickF; exact rfl; exact rfl; (conv => lhs; whnf)) | apply Wpc.ret | (apply Wpl.leq; exact rfl; exact rfl; exact rfl; all_goals (intro h; try (exfalso; omega))) | (apply Wpl.geq; exact rfl; exact rfl; exact rfl; all_goals (intro h; try (exfalso; omega))))
  all_goals refine ⟨[_], [], ⟨rfl, trivial⟩, Sel.nil _, fun _ h => h, ?_, rfl⟩
  · rw [decide_eq_true (by omega)]; rfl
  · rw [decide_eq_false (by omega)]; rfl
  · rw [decide_eq_false (by omega)]; rfl

def pickM (s : Bool) (at_ count : Int) : Int := if s then count - 1 - at_ else at_
theorem pick_spec (s : Bool) (at_ count : Int) (h : 0 ≤ at_ ∧ at_ < 100 ∧ 0 ≤ count ∧ count < 100) : PSpec Try.prog 136 [.bool s, .int .i64 at_, .int .i64 count] [] (.int .i64 (pickM s at_ count)) := by
  refine Ctr.intro Try.func136 (by kernel_rfl) rfl (by conv => lhs; whnf) rfl fun W => ?_
  cases s
  all_goals repeat' (first | (apply Wpc.seqK; intro K hK) | apply Wpc.region | apply Wpl.nil | (apply hK; clear hK K) | (apply Wpl.mv; exact rfl; (conv => lhs; whnf)) | (apply Wpl.asg; exact rfl; (conv => lhs; whnf)) | (apply Wpc.cond_true; exact rfl) | (apply Wpc.cond_false; exact rfl) | apply Wpc.skip | apply Wpc.ret | (apply Wpl.sub; exact rfl; exact rfl; exact rfl; omega))
  all_goals exact ⟨[_], [], ⟨rfl, trivial⟩, Sel.nil _, fun _ h => h, rfl, rfl⟩

def shiftM (s : Bool) (at_ : Int) : Int := if s then 7 - at_ % 8 else at_ % 8
theorem shift_spec (s : Bool) (at_ : Int) (h : 0 ≤ at_) : PSpec Try.prog 160 [.bool s, .int .i64 at_] [] (.int .i64 (shiftM s at_)) := by
  refine Ctr.intro Try.func160 (by kernel_rfl) rfl (by conv => lhs; whnf) rfl fun W => ?_
  cases s
  all_goals repeat' (first | (apply Wpc.seqK; intro K hK) | apply Wpc.region | apply Wpl.nil | (apply hK; clear hK K) | (apply Wpl.mv; exact rfl; (conv => lhs; whnf)) | (apply Wpl.asg; exact rfl; (conv => lhs; whnf)) | (apply Wpc.cond_true; exact rfl) | (apply Wpc.cond_false; exact rfl) | apply Wpc.skip | apply Wpc.ret | (apply Wpl.sub; exact rfl; exact rfl; exact rfl; omega) | (apply Wpl.rem; exact rfl; exact rfl; exact rfl; omega))
  all_goals exact ⟨[_], [], ⟨rfl, trivial⟩, Sel.nil _, fun _ h => h, rfl, rfl⟩

theorem runs1_spec (n : Int) : PSpec Try.prog 142 [.int .i64 n] [] (.bool (decide (n < 0 ∨ 15 < n))) := by
  refine Ctr.intro Try.func142 (by kernel_rfl) rfl (by conv => lhs; whnf) rfl fun W => ?_
  repeat' (first | (apply Wpc.seqK; intro K hK) | apply Wpc.region | apply Wpl.nil | (apply hK; clear hK K) | (apply Wpl.mv; exact rfl; (conv => lhs; whnf)) | (apply Wpl.asg; exact rfl; (conv => lhs; whnf)) | (apply Wpl.guard_run; exact rfl; exact rfl) | (apply Wpl.guard_skip; exact rfl; exact rfl; exact rfl) | (apply Wpl.pickT; exact rfl; exact rfl; (conv => lhs; whnf)) | (apply Wpl.pickF; exact rfl; exact rfl; (conv => lhs; whnf)) | apply Wpc.ret | (apply Wpl.lss; exact rfl; exact rfl; exact rfl; all_goals (intro h; try (exfalso; omega))) | (apply Wpl.gtr; exact rfl; exact rfl; exact rfl; all_goals (intro h; try (exfalso; omega))))
  all_goals refine ⟨[_], [], ⟨rfl, trivial⟩, Sel.nil _, fun _ h => h, ?_, rfl⟩
  · rw [decide_eq_true (by omega)]; rfl
  · rw [decide_eq_true (by omega)]; rfl
  · rw [decide_eq_false (by omega)]; rfl
theorem sound1_spec (n : Int) : PSpec Try.prog 166 [.int .i64 n] [] (.bool (decide (n < 0 ∨ 1099511627776 < n))) := by
  refine Ctr.intro Try.func166 (by kernel_rfl) rfl (by conv => lhs; whnf) rfl fun W => ?_
  repeat' (first | (apply Wpc.seqK; intro K hK) | apply Wpc.region | apply Wpl.nil | (apply hK; clear hK K) | (apply Wpl.mv; exact rfl; (conv => lhs; whnf)) | (apply Wpl.asg; exact rfl; (conv => lhs; whnf)) | (apply Wpl.guard_run; exact rfl; exact rfl) | (apply Wpl.guard_skip; exact rfl; exact rfl; exact rfl) | (apply Wpl.pickT; exact rfl; exact rfl; (conv => lhs; whnf)) | (apply Wpl.pickF; exact rfl; exact rfl; (conv => lhs; whnf)) | apply Wpc.ret | (apply Wpl.lss; exact rfl; exact rfl; exact rfl; all_goals (intro h; try (exfalso; omega))) | (apply Wpl.gtr; exact rfl; exact rfl; exact rfl; all_goals (intro h; try (exfalso; omega))))
  all_goals refine ⟨[_], [], ⟨rfl, trivial⟩, Sel.nil _, fun _ h => h, ?_, rfl⟩
  · rw [decide_eq_true (by omega)]; rfl
  · rw [decide_eq_true (by omega)]; rfl
  · rw [decide_eq_false (by omega)]; rfl

theorem isNaN_spec (n : Int) : PSpec Try.prog 183 [.int .i64 n] [] (.bool false) := by
  refine Ctr.intro Try.func183 (by kernel_rfl) rfl (by conv => lhs; whnf) rfl fun W => ?_
  repeat' (first | (apply Wpc.seqK; intro K hK) | apply Wpc.region | apply Wpl.nil | (apply hK; clear hK K) | (apply Wpl.mv; exact rfl; (conv => lhs; whnf)) | (apply Wpl.asg; exact rfl; (conv => lhs; whnf)) | apply Wpc.ret | (apply Wpl.neq; exact rfl; exact rfl; exact rfl; all_goals (intro h; try (exfalso; omega))))
  all_goals exact ⟨[_], [], ⟨rfl, trivial⟩, Sel.nil _, fun _ h => h, rfl, rfl⟩

def cmpM (a b : Int) : Int := if a < b then -1 else if b < a then 1 else 0
theorem compare_spec (a b : Int) : PSpec Try.prog 178 [.int .i64 a, .int .i64 b] [] (.int .i64 (cmpM a b)) := by
  refine Ctr.intro Try.func178 (by kernel_rfl) rfl (by conv => lhs; whnf) rfl fun W => ?_
  repeat' (first | (apply Wpl.callP; exact rfl; exact rfl; exact rfl; exact rfl; (apply isNaN_spec); (exact HasF.nil)) | (apply Wpc.seqK; intro K hK) | apply Wpc.region | apply Wpl.nil | (apply hK; clear hK K) | (apply Wpl.mv; exact rfl; (conv => lhs; whnf)) | (apply Wpl.asg; exact rfl; (conv => lhs; whnf)) | (apply Wpc.cond_true; exact rfl) | (apply Wpc.cond_false; exact rfl) | apply Wpc.skip | apply Wpc.ret | (apply Wpl.lss; exact rfl; exact rfl; exact rfl; all_goals (intro h; try (exfalso; omega))) | (apply Wpl.gtr; exact rfl; exact rfl; exact rfl; all_goals (intro h; try (exfalso; omega))))
  all_goals refine ⟨[_], [], ⟨rfl, trivial⟩, Sel.nil _, fun _ h => h, ?_, rfl⟩
  · rw [cmpM, if_pos (by omega)]; rfl
  · rw [cmpM, if_neg (by omega), if_pos (by omega)]; rfl
  · rw [cmpM, if_neg (by omega), if_neg (by omega)]; rfl

def orderL : List Int := [16, 17, 18, 0, 8, 7, 9, 6, 10, 5, 11, 4, 12, 3, 13, 2, 14, 1, 15]
theorem order_spec : Ctr Try.prog 95 [] [] [] (fun v M' => ∃ F, M' = [F] ∧ OwnRow 3 1 F v 19 (ints .i64 orderL)) := by
  refine Ctr.intro Try.func95 (by kernel_rfl) rfl (by conv => lhs; whnf) rfl fun W => ?_
  repeat' (first | (apply Wpc.seqK; intro K hK) | apply Wpc.region | apply Wpl.nil | (apply hK; clear hK K) | (apply Wpl.asg; exact rfl; (conv => lhs; whnf)))
  refine Wpl.lit1 (cs := ints .i64 orderL) rfl (by decide) (by decide) rfl (by kernel_rfl) (fun v F h => ?_)
  repeat' (first | apply Wpl.nil | (apply hK; clear hK K) | (apply Wpl.asg; exact rfl; (conv => lhs; whnf)) | apply Wpc.ret)
  exact ⟨[_], _, ⟨rfl, trivial⟩, Sel.refl _, fun _ h => h, _, rfl, h⟩
end Go.Proofs.Ytmfcgffdijnokaa
set_option maxRecDepth 100000
set_option maxHeartbeats 4000000
namespace Go.Proofs.Ytmfcgffdijnokaa
open Go.SL Go.RowKit
attribute [local irreducible] Wpl Wpc Wph
/-! symbols of lengths and distances -/
def lenBase (s : Int) : Int × Int × Bool :=
  if s < 257 ∨ s > 285 then (0, 0, false) else if s = 285 then (258, 0, true)
  else if s - 257 < 8 then (3 + (s - 257), 0, true)
  else (3 + (4 + (s - 257) % 4) * 2 ^ ((s - 257) / 4 - 1).toNat, (s - 257) / 4 - 1, true)
def distBase (s : Int) : Int × Int × Bool :=
  if s < 0 ∨ s ≥ 30 then (0, 0, false) else if s < 4 then (1 + s, 0, true)
  else (1 + (2 + s % 2) * 2 ^ (s / 2 - 1).toNat, s / 2 - 1, true)
def trip (p : Int × Int × Bool) : Value := .tuple #[.int .i64 p.1, .int .i64 p.2.1, .bool p.2.2]
theorem pow_bd {a : Int} {n : Nat} (h0 : 0 ≤ a) (h1 : a ≤ 100) (h2 : n ≤ 20) : 0 ≤ a * 2 ^ n ∧ a * 2 ^ n ≤ 104857600 := by
  have h3 : (2 : Int) ^ n ≤ 2 ^ 20 := by exact_mod_cast Nat.pow_le_pow_right (by decide) h2
  have h4 : (0 : Int) < 2 ^ n := Int.pow_pos (by decide)
  refine ⟨Int.mul_nonneg h0 (by omega), ?_⟩
  calc a * 2 ^ n ≤ 100 * 2 ^ n := Int.mul_le_mul_of_nonneg_right h1 (by omega)
    _ ≤ 100 * 2 ^ 20 := Int.mul_le_mul_of_nonneg_left h3 (by decide)
    _ = 104857600 := by decide

theorem lenBase_spec (s : Int) (hs : -1000000 ≤ s ∧ s ≤ 1000000) : PSpec Try.prog 55 [.int .i64 s] [] (trip (lenBase s)) := by
  refine Ctr.intro Try.func55 (by kernel_rfl) rfl (by conv => lhs; whnf) rfl fun W => ?_
  repeat' (first | (apply Wpc.seqK; intro K hK) | apply Wpc.region | apply Wpl.nil | (apply hK; clear hK K) | (apply Wpl.mv; exact rfl; (conv => lhs; whnf)) | (apply Wpl.asg; exact rfl; (conv => lhs; whnf)) | (apply Wpl.guard_run; exact rfl; exact rfl) | (apply Wpl.guard_skip; exact rfl; exact rfl; exact rfl) | (apply Wpl.pickT; exact rfl; exact rfl; (conv => lhs; whnf)) | (apply Wpl.pickF; exact rfl; exact rfl; (conv => lhs; whnf)) | (apply Wpc.cond_true; exact rfl) | (apply Wpc.cond_false; exact rfl) | apply Wpc.block | apply Wpc.skip | apply Wpc.ret | (apply Wpl.lss; exact rfl; exact rfl; exact rfl; all_goals (intro h; try (exfalso; omega))) | (apply Wpl.gtr; exact rfl; exact rfl; exact rfl; all_goals (intro h; try (exfalso; omega))) | (apply Wpl.eql; exact rfl; exact rfl; exact rfl; all_goals (intro h; try (exfalso; omega))) | (apply Wpl.add; exact rfl; exact rfl; exact rfl; omega) | (apply Wpl.sub; exact rfl; exact rfl; exact rfl; omega) | (apply Wpl.quo; exact rfl; exact rfl; exact rfl; omega) | (apply Wpl.rem; exact rfl; exact rfl; exact rfl; omega))
  rotate_right
  · have := pow_bd (a := 4 + (s - 257) % 4) (n := ((s - 257) / 4 - 1).toNat) (by omega) (by omega) (by omega)
    refine Wpl.shl rfl rfl rfl (by omega) (by omega) ?_
    repeat' (first | apply Wpl.nil | (apply hK; clear hK K) | (apply Wpl.mv; exact rfl; (conv => lhs; whnf)) | (apply Wpl.asg; exact rfl; (conv => lhs; whnf)) | apply Wpc.ret | (apply Wpl.add; exact rfl; exact rfl; exact rfl; omega))
    refine ⟨[_, _, _], [], ⟨rfl, rfl, rfl, trivial⟩, Sel.nil _, fun _ h => h, ?_, rfl⟩
    rw [lenBase, if_neg (by omega), if_neg (by omega), if_neg (by omega)]; rfl
  all_goals refine ⟨[_, _, _], [], ⟨rfl, rfl, rfl, trivial⟩, Sel.nil _, fun _ h => h, ?_, rfl⟩
  · rw [lenBase, if_pos (by omega)]; rfl
  · rw [lenBase, if_pos (by omega)]; rfl
  · rw [lenBase, if_neg (by omega), if_pos (by omega)]; rfl
  · rw [lenBase, if_neg (by omega), if_neg (by omega), if_pos (by omega)]; rfl

theorem distBase_spec (s : Int) (hs : -1000000 ≤ s ∧ s ≤ 1000000) : PSpec Try.prog 56 [.int .i64 s] [] (trip (distBase s)) := by
  refine Ctr.intro Try.func56 (by kernel_rfl) rfl (by conv => lhs; whnf) rfl fun W => ?_
  repeat' (first | (apply Wpc.seqK; intro K hK) | apply Wpc.region | apply Wpl.nil | (apply hK; clear hK K) | (apply Wpl.mv; exact rfl; (conv => lhs; whnf)) | (apply Wpl.asg; exact rfl; (conv => lhs; whnf)) | (apply Wpl.guard_run; exact rfl; exact rfl) | (apply Wpl.guard_skip; exact rfl; exact rfl; exact rfl) | (apply Wpl.pickT; exact rfl; exact rfl; (conv => lhs; whnf)) | (apply Wpl.pickF; exact rfl; exact rfl; (conv => lhs; whnf)) | (apply Wpc.cond_true; exact rfl) | (apply Wpc.cond_false; exact rfl) | apply Wpc.block | apply Wpc.skip | apply Wpc.ret | (apply Wpl.lss; exact rfl; exact rfl; exact rfl; all_goals (intro h; try (exfalso; omega))) | (apply Wpl.geq; exact rfl; exact rfl; exact rfl; all_goals (intro h; try (exfalso; omega))) | (apply Wpl.add; exact rfl; exact rfl; exact rfl; omega) | (apply Wpl.sub; exact rfl; exact rfl; exact rfl; omega) | (apply Wpl.quo; exact rfl; exact rfl; exact rfl; omega) | (apply Wpl.rem; exact rfl; exact rfl; exact rfl; omega))
  rotate_right
  · have := pow_bd (a := 2 + s % 2) (n := (s / 2 - 1).toNat) (by omega) (by omega) (by omega)
    refine Wpl.shl rfl rfl rfl (by omega) (by omega) ?_
    repeat' (first | apply Wpl.nil | (apply hK; clear hK K) | (apply Wpl.mv; exact rfl; (conv => lhs; whnf)) | (apply Wpl.asg; exact rfl; (conv => lhs; whnf)) | apply Wpc.ret | (apply Wpl.add; exact rfl; exact rfl; exact rfl; omega))
    refine ⟨[_, _, _], [], ⟨rfl, rfl, rfl, trivial⟩, Sel.nil _, fun _ h => h, ?_, rfl⟩
    rw [distBase, if_neg (by omega), if_neg (by omega)]; rfl
  all_goals refine ⟨[_, _, _], [], ⟨rfl, rfl, rfl, trivial⟩, Sel.nil _, fun _ h => h, ?_, rfl⟩
  · rw [distBase, if_pos (by omega)]; rfl
  · rw [distBase, if_pos (by omega)]; rfl
  · rw [distBase, if_neg (by omega), if_pos (by omega)]; rfl

def lenSymA : Nat → Int → Int
  | 0, _ => 257
  | k + 1, n => if (lenBase (257 + ((k + 1 : Nat) : Int))).1 ≤ n then 257 + ((k + 1 : Nat) : Int) else lenSymA k n
def lenSym (n : Int) : Int := lenSymA 28 n
def distSymA : Nat → Int → Int
  | 0, _ => 0
  | k + 1, n => if (distBase ((k + 1 : Nat) : Int)).1 ≤ n then ((k + 1 : Nat) : Int) else distSymA k n
def distSym (n : Int) : Int := distSymA 29 n

theorem lenSym_hit {k : Nat} {n : Int} (hs : lenSym n = lenSymA k n) (hb : (lenBase (257 + k)).1 ≤ n) : lenSym n = 257 + k := by
  rw [hs]
  cases k with
  | zero => rfl
  | succ k => rw [lenSymA, if_pos hb]
theorem lenSym_miss {k : Nat} {n : Int} (h3 : 3 ≤ n) (hs : lenSym n = lenSymA k n) (hb : n < (lenBase (257 + k)).1) : ∃ j, k = j + 1 ∧ lenSym n = lenSymA j n := by
  cases k with
  | zero => exact absurd hb (by simp [lenBase]; omega)
  | succ k => exact ⟨k, rfl, by rw [hs, lenSymA, if_neg (by omega)]⟩
theorem distSym_hit {k : Nat} {n : Int} (hs : distSym n = distSymA k n) (hb : (distBase k).1 ≤ n) : distSym n = k := by
  rw [hs]
  cases k with
  | zero => rfl
  | succ k => rw [distSymA, if_pos hb]
theorem distSym_miss {k : Nat} {n : Int} (h3 : 1 ≤ n) (hs : distSym n = distSymA k n) (hb : n < (distBase k).1) : ∃ j, k = j + 1 ∧ distSym n = distSymA j n := by
  cases k with
  | zero => exact absurd hb (by simp [distBase]; omega)
  | succ k => exact ⟨k, rfl, by rw [hs, distSymA, if_neg (by omega)]⟩

def lenSymV (n : Int) : Value := if 3 ≤ n ∧ n ≤ 258 then .tuple #[.int .i64 (lenSym n), .bool true] else .tuple #[.int .i64 0, .bool false]
def distSymV (n : Int) : Value := if 1 ≤ n ∧ n ≤ 32768 then .tuple #[.int .i64 (distSym n), .bool true] else .tuple #[.int .i64 0, .bool false]
theorem lenSymV_yes {n z : Int} (h : 3 ≤ n ∧ n ≤ 258) (e : lenSym n = z) : Value.tuple #[.int .i64 z, .bool true] = lenSymV n := by rw [lenSymV, if_pos h, e]
theorem lenSymV_no {n : Int} (h : ¬ (3 ≤ n ∧ n ≤ 258)) : Value.tuple #[.int .i64 0, .bool false] = lenSymV n := by rw [lenSymV, if_neg h]
theorem distSymV_yes {n z : Int} (h : 1 ≤ n ∧ n ≤ 32768) (e : distSym n = z) : Value.tuple #[.int .i64 z, .bool true] = distSymV n := by rw [distSymV, if_pos h, e]
theorem distSymV_no {n : Int} (h : ¬ (1 ≤ n ∧ n ≤ 32768)) : Value.tuple #[.int .i64 0, .bool false] = distSymV n := by rw [distSymV, if_neg h]

theorem lenSym_spec (n : Int) : PSpec Try.prog 54 [.int .i64 n] [] (lenSymV n) := by
  refine Ctr.intro Try.func54 (by kernel_rfl) rfl (by conv => lhs; whnf) rfl fun W => ?_
  repeat' (first | (apply Wpc.seqK; intro K hK) | apply Wpc.region | apply Wpl.nil | (apply hK; clear hK K) | (apply Wpl.mv; exact rfl; (conv => lhs; whnf)) | (apply Wpl.asg; exact rfl; (conv => lhs; whnf)) | (apply Wpl.guard_run; exact rfl; exact rfl) | (apply Wpl.guard_skip; exact rfl; exact rfl; exact rfl) | (apply Wpl.pickT; exact rfl; exact rfl; (conv => lhs; whnf)) | (apply Wpl.pickF; exact rfl; exact rfl; (conv => lhs; whnf)) | (apply Wpc.cond_true; exact rfl) | (apply Wpc.cond_false; exact rfl) | apply Wpc.block | apply Wpc.skip | apply Wpc.ret | (apply Wpl.lss; exact rfl; exact rfl; exact rfl; all_goals (intro h; try (exfalso; omega))) | (apply Wpl.gtr; exact rfl; exact rfl; exact rfl; all_goals (intro h; try (exfalso; omega))))
  rotate_right
  · refine Wpc.loop (fun k : Nat => k ≤ 28 ∧ lenSym n = lenSymA k n) (fun k => [(0, .int .i64 n), (4, .int .i64 (257 + k))]) (fun _ => []) (fun k => k) 28 ⟨by omega, rfl⟩ ⟨rfl, rfl, trivial⟩ (Sel.refl _) ?_
    rintro k g ⟨hk, hs⟩
    repeat' (first | (apply Wpl.callP; exact rfl; exact rfl; exact rfl; exact rfl; (apply lenBase_spec; omega); (exact HasF.nil)) | (apply Wpc.seqK; intro K hK) | apply Wpc.region | apply Wpl.nil | (apply hK; clear hK K) | (apply Wpl.mv; exact rfl; (conv => lhs; whnf)) | (apply Wpl.asg; exact rfl; (conv => lhs; whnf)) | (apply Wpc.cond_true; exact rfl) | (apply Wpc.cond_false; exact rfl) | apply Wpc.block | apply Wpc.skip | apply Wpc.ret | (apply Wpl.extract; exact rfl; exact rfl; exact rfl) | (apply Wpl.leq; exact rfl; exact rfl; exact rfl; all_goals (intro h; try (exfalso; omega))) | (apply Wpl.sub; exact rfl; exact rfl; exact rfl; omega))
    · exact ⟨[_, _], [], ⟨rfl, rfl, trivial⟩, Sel.nil _, fun _ h => h, lenSymV_yes (by omega) (lenSym_hit hs (by assumption)), rfl⟩
    · obtain ⟨j, e, hs'⟩ := lenSym_miss (by assumption) hs (by assumption)
      exact ⟨j, ⟨by omega, hs'⟩, by omega, ⟨rfl, congrArg (Value.int .i64) (by omega), trivial⟩, Sel.refl _, fun _ h => h⟩
  · exact ⟨[_, _], [], ⟨rfl, rfl, trivial⟩, Sel.nil _, fun _ h => h, lenSymV_no (by omega), rfl⟩
  · exact ⟨[_, _], [], ⟨rfl, rfl, trivial⟩, Sel.nil _, fun _ h => h, lenSymV_no (by omega), rfl⟩

theorem distSym_spec (n : Int) : PSpec Try.prog 91 [.int .i64 n] [] (distSymV n) := by
  refine Ctr.intro Try.func91 (by kernel_rfl) rfl (by conv => lhs; whnf) rfl fun W => ?_
  repeat' (first | (apply Wpc.seqK; intro K hK) | apply Wpc.region | apply Wpl.nil | (apply hK; clear hK K) | (apply Wpl.mv; exact rfl; (conv => lhs; whnf)) | (apply Wpl.asg; exact rfl; (conv => lhs; whnf)) | (apply Wpl.guard_run; exact rfl; exact rfl) | (apply Wpl.guard_skip; exact rfl; exact rfl; exact rfl) | (apply Wpl.pickT; exact rfl; exact rfl; (conv => lhs; whnf)) | (apply Wpl.pickF; exact rfl; exact rfl; (conv => lhs; whnf)) | (apply Wpc.cond_true; exact rfl) | (apply Wpc.cond_false; exact rfl) | apply Wpc.block | apply Wpc.skip | apply Wpc.ret | (apply Wpl.lss; exact rfl; exact rfl; exact rfl; all_goals (intro h; try (exfalso; omega))) | (apply Wpl.gtr; exact rfl; exact rfl; exact rfl; all_goals (intro h; try (exfalso; omega))))
  rotate_right
  · refine Wpc.loop (fun k : Nat => k ≤ 29 ∧ distSym n = distSymA k n) (fun k => [(0, .int .i64 n), (4, .int .i64 k)]) (fun _ => []) (fun k => k) 29 ⟨by omega, rfl⟩ ⟨rfl, rfl, trivial⟩ (Sel.refl _) ?_
    rintro k g ⟨hk, hs⟩
    repeat' (first | (apply Wpl.callP; exact rfl; exact rfl; exact rfl; exact rfl; (apply distBase_spec; omega); (exact HasF.nil)) | (apply Wpc.seqK; intro K hK) | apply Wpc.region | apply Wpl.nil | (apply hK; clear hK K) | (apply Wpl.mv; exact rfl; (conv => lhs; whnf)) | (apply Wpl.asg; exact rfl; (conv => lhs; whnf)) | (apply Wpc.cond_true; exact rfl) | (apply Wpc.cond_false; exact rfl) | apply Wpc.block | apply Wpc.skip | apply Wpc.ret | (apply Wpl.extract; exact rfl; exact rfl; exact rfl) | (apply Wpl.leq; exact rfl; exact rfl; exact rfl; all_goals (intro h; try (exfalso; omega))) | (apply Wpl.sub; exact rfl; exact rfl; exact rfl; omega))
    · exact ⟨[_, _], [], ⟨rfl, rfl, trivial⟩, Sel.nil _, fun _ h => h, distSymV_yes (by omega) (distSym_hit hs (by assumption)), rfl⟩
    · obtain ⟨j, e, hs'⟩ := distSym_miss (by assumption) hs (by assumption)
      exact ⟨j, ⟨by omega, hs'⟩, by omega, ⟨rfl, congrArg (Value.int .i64) (by omega), trivial⟩, Sel.refl _, fun _ h => h⟩
  · exact ⟨[_, _], [], ⟨rfl, rfl, trivial⟩, Sel.nil _, fun _ h => h, distSymV_no (by omega), rfl⟩
  · exact ⟨[_, _], [], ⟨rfl, rfl, trivial⟩, Sel.nil _, fun _ h => h, distSymV_no (by omega), rfl⟩
theorem lenSym_in (n : Int) (h : 3 ≤ n ∧ n ≤ 258) : PSpec Try.prog 54 [.int .i64 n] [] (.tuple #[.int .i64 (lenSym n), .bool true]) := by
  have := lenSym_spec n; rwa [lenSymV, if_pos h] at this
theorem lenSym_out (n : Int) (h : ¬ (3 ≤ n ∧ n ≤ 258)) : PSpec Try.prog 54 [.int .i64 n] [] (.tuple #[.int .i64 0, .bool false]) := by
  have := lenSym_spec n; rwa [lenSymV, if_neg h] at this
theorem distSym_in (n : Int) (h : 1 ≤ n ∧ n ≤ 32768) : PSpec Try.prog 91 [.int .i64 n] [] (.tuple #[.int .i64 (distSym n), .bool true]) := by
  have := distSym_spec n; rwa [distSymV, if_pos h] at this
theorem distSym_out (n : Int) (h : ¬ (1 ≤ n ∧ n ≤ 32768)) : PSpec Try.prog 91 [.int .i64 n] [] (.tuple #[.int .i64 0, .bool false]) := by
  have := distSym_spec n; rwa [distSymV, if_neg h] at this
end Go.Proofs.Ytmfcgffdijnokaa
set_option maxRecDepth 100000
set_option maxHeartbeats 4000000
namespace Go.Proofs.Ytmfcgffdijnokaa
open Go.SL Go.RowKit
attribute [local irreducible] Wpl Wpc Wph
/-! parse.Count -/
def tokC (t : Int × Int) : List Value := [.int .i64 t.1, .int .i64 t.2]
theorem tokC_len (t : Int × Int) : (tokC t).length = 2 := rfl
def incAt (l : List Int) (i : Nat) : List Int := l.set i (l[i]?.getD 0 + 1)
theorem incAt_len (l : List Int) (i : Nat) : (incAt l i).length = l.length := by simp [incAt]
theorem incAt_get {l : List Int} {i : Nat} (h : i < l.length) : l.set i (l[i] + 1) = incAt l i := by simp [incAt, h]
def cntStep (p : List Int × List Int) (t : Int × Int) : List Int × List Int :=
  if t.1 = 0 then (if 0 ≤ t.2 ∧ t.2 < 256 then (incAt p.1 t.2.toNat, p.2) else p)
  else if (3 ≤ t.1 ∧ t.1 ≤ 258) ∧ 1 ≤ t.2 ∧ t.2 ≤ 32768 then (incAt p.1 (lenSym t.1).toNat, incAt p.2 (distSym t.2).toNat) else p
def cnt (ts : List (Int × Int)) : List Int × List Int := ts.foldl cntStep ((List.replicate 286 0).set 256 1, List.replicate 30 0)
theorem cnt_snoc (ts : List (Int × Int)) (t : Int × Int) : cnt (ts ++ [t]) = cntStep (cnt ts) t := by simp [cnt]
theorem cntStep_len (p : List Int × List Int) (t : Int × Int) : (cntStep p t).1.length = p.1.length ∧ (cntStep p t).2.length = p.2.length := by
  unfold cntStep
  split
  · split <;> simp [incAt_len]
  · split <;> simp [incAt_len]
theorem incAt_bd {l : List Int} {i : Nat} {B : Int} (h : ∀ x ∈ l, 0 ≤ x ∧ x ≤ B) (hB : 0 ≤ B) : ∀ x ∈ incAt l i, 0 ≤ x ∧ x ≤ B + 1 := by
  intro x hx
  rcases List.mem_or_eq_of_mem_set hx with hx | rfl
  · have := h x hx; omega
  · cases hg : l[i]? with
    | none => simp; omega
    | some y => have := h y (List.mem_of_getElem? hg); simp; omega
theorem le_bd {l : List Int} {B : Int} (h : ∀ x ∈ l, 0 ≤ x ∧ x ≤ B) : ∀ x ∈ l, 0 ≤ x ∧ x ≤ B + 1 := fun x hx => by have := h x hx; omega
theorem cntStep_bd {p : List Int × List Int} {t : Int × Int} {B : Int} (hB : 0 ≤ B) (h1 : ∀ x ∈ p.1, 0 ≤ x ∧ x ≤ B) (h2 : ∀ x ∈ p.2, 0 ≤ x ∧ x ≤ B) :
    (∀ x ∈ (cntStep p t).1, 0 ≤ x ∧ x ≤ B + 1) ∧ (∀ x ∈ (cntStep p t).2, 0 ≤ x ∧ x ≤ B + 1) := by
  unfold cntStep
  split
  · split
    · exact ⟨incAt_bd h1 hB, le_bd h2⟩
    · exact ⟨le_bd h1, le_bd h2⟩
  · split
    · exact ⟨incAt_bd h1 hB, incAt_bd h2 hB⟩
    · exact ⟨le_bd h1, le_bd h2⟩
theorem cnt_len (ts : List (Int × Int)) : (cnt ts).1.length = 286 ∧ (cnt ts).2.length = 30 := by
  have : ∀ (ts : List (Int × Int)) (p : List Int × List Int), (ts.foldl cntStep p).1.length = p.1.length ∧ (ts.foldl cntStep p).2.length = p.2.length := by
    intro ts
    induction ts with
    | nil => intro p; exact ⟨rfl, rfl⟩
    | cons t ts ih => intro p; have h1 := ih (cntStep p t); have h2 := cntStep_len p t; exact ⟨h1.1.trans h2.1, h1.2.trans h2.2⟩
  have h := this ts ((List.replicate 286 0).set 256 1, List.replicate 30 0)
  exact ⟨h.1.trans (by simp), h.2.trans (by simp)⟩
theorem cnt_bd (ts : List (Int × Int)) : (∀ x ∈ (cnt ts).1, 0 ≤ x ∧ x ≤ 1 + ts.length) ∧ (∀ x ∈ (cnt ts).2, 0 ≤ x ∧ x ≤ 1 + ts.length) := by
  have : ∀ (ts : List (Int × Int)) (p : List Int × List Int) (B : Int), 0 ≤ B → (∀ x ∈ p.1, 0 ≤ x ∧ x ≤ B) → (∀ x ∈ p.2, 0 ≤ x ∧ x ≤ B) → (∀ x ∈ (ts.foldl cntStep p).1, 0 ≤ x ∧ x ≤ B + ts.length) ∧ (∀ x ∈ (ts.foldl cntStep p).2, 0 ≤ x ∧ x ≤ B + ts.length) := by
    intro ts
    induction ts with
    | nil => intro p B hB h1 h2; simpa using ⟨h1, h2⟩
    | cons t ts ih =>
      intro p B hB h1 h2
      have h3 := cntStep_bd (t := t) hB h1 h2
      have h4 := ih (cntStep p t) (B + 1) (by omega) h3.1 h3.2
      simp only [List.foldl_cons, List.length_cons]
      have e : B + 1 + (ts.length : Int) = B + ((ts.length + 1 : Nat) : Int) := by omega
      rw [e] at h4
      exact h4
  refine this ts _ 1 (by omega) ?_ ?_
  · intro x hx
    rcases List.mem_or_eq_of_mem_set hx with hx | rfl
    · have := List.eq_of_mem_replicate hx; omega
    · omega
  · intro x hx; have := List.eq_of_mem_replicate hx; omega

theorem lenSym_bd (n : Int) : 257 ≤ lenSym n ∧ lenSym n ≤ 285 := by
  have : ∀ k : Nat, k ≤ 28 → 257 ≤ lenSymA k n ∧ lenSymA k n ≤ 285 := by
    intro k
    induction k with
    | zero => intro _; simp [lenSymA]
    | succ k ih => intro h; have := ih (by omega); unfold lenSymA; split <;> omega
  exact this 28 (by omega)
theorem distSym_bd (n : Int) : 0 ≤ distSym n ∧ distSym n ≤ 29 := by
  have : ∀ k : Nat, k ≤ 29 → 0 ≤ distSymA k n ∧ distSymA k n ≤ 29 := by
    intro k
    induction k with
    | zero => intro _; simp [distSymA]
    | succ k ih => intro h; have := ih (by omega); unfold distSymA; split <;> omega
  exact this 29 (by omega)

theorem cntStep_lit {p : List Int × List Int} {t : Int × Int} (h : t.1 = 0 ∧ 0 ≤ t.2 ∧ t.2 < 256) : cntStep p t = (incAt p.1 t.2.toNat, p.2) := by rw [cntStep, if_pos h.1, if_pos h.2]
theorem cntStep_match {p : List Int × List Int} {t : Int × Int} (h1 : 3 ≤ t.1 ∧ t.1 ≤ 258) (h2 : 1 ≤ t.2 ∧ t.2 ≤ 32768) : cntStep p t = (incAt p.1 (lenSym t.1).toNat, incAt p.2 (distSym t.2).toNat) := by
  rw [cntStep, if_neg (by omega), if_pos ⟨h1, h2⟩]
theorem cntStep_none {p : List Int × List Int} {t : Int × Int} (h1 : ¬ (t.1 = 0 ∧ 0 ≤ t.2 ∧ t.2 < 256)) (h2 : ¬ ((3 ≤ t.1 ∧ t.1 ≤ 258) ∧ 1 ≤ t.2 ∧ t.2 ≤ 32768)) : cntStep p t = p := by
  unfold cntStep
  split
  · rw [if_neg (by omega)]
  · first | rfl | rw [if_neg h2]
theorem count_spec (F : Frag) (v : Value) (ts : List (Int × Int)) (hv : Row F 2 v ts.length (flat tokC ts)) (hlen : ts.length ≤ 1000000000000) :
    Ctr Try.prog 52 [v] [F] [] (fun r M' => ∃ vl vd Fl Fd, r = .tuple #[vl, vd] ∧ M' = [Fl, Fd] ∧ OwnRow 3 1 Fl vl 286 (ints .i64 (cnt ts).1) ∧ OwnRow 3 1 Fd vd 30 (ints .i64 (cnt ts).2)) := by
  obtain ⟨a, cap, rfl⟩ := hv.len
  refine Ctr.intro Try.func52 (by kernel_rfl) rfl (by conv => lhs; whnf) rfl fun W => ?_
  repeat' (first | (apply Wpc.seqK; intro K hK) | apply Wpc.region | apply Wpl.nil | (apply hK; clear hK K) | (apply Wpl.asg; exact rfl; (conv => lhs; whnf)))
  refine Wpc.join (fun i : Value × Value × Frag × Frag => OwnRow 3 1 i.2.2.1 i.1 286 (ints .i64 (List.replicate 286 0)) ∧ OwnRow 3 1 i.2.2.2 i.2.1 30 (ints .i64 (List.replicate 30 0)))
    (fun i => [(0, .slice a ts.length cap), (4, i.1), (5, i.2.1)]) (fun i => [i.2.2.1, i.2.2.2]) ?_ ?_
  · refine Wpc.region_held (by kernel_rfl) [F] [] 4 rfl _ rfl ?_
    refine Wph.two 0 1 (by kernel_rfl) rfl rfl rfl rfl ?_ ?_
    · refine Wpl.mk1 rfl rfl rfl (by omega) (by omega) (by omega) rfl (fun vl Fl hl => ?_)
      refine Wpl.nil ⟨fun _ h => h, Sel.nil _, ?_⟩
      (refine Wph.take 2 rfl (by kernel_rfl) rfl (fun _ _ _ _ h => h) (fun _ h => h) (by first | exact Sel.refl _ | exact Sel.tail _ _ | exact Sel.nil _ | exact (Sel.tail _ _).trans (Sel.tail _ _) | exact (Sel.tail _ _).trans ((Sel.tail _ _).trans (Sel.tail _ _))) ?_; (repeat' (first | apply Wpl.nil | (apply Wpl.asg; exact rfl; (conv => lhs; whnf))))); skip
      refine Wph.one 1 (by kernel_rfl) rfl rfl ?_
      refine Wpl.mk1 rfl rfl rfl (by omega) (by omega) (by omega) rfl (fun vd Fd hd => ?_)
      refine Wpl.nil ⟨fun _ h => h, Sel.nil _, ?_⟩
      (refine Wph.take 3 rfl (by kernel_rfl) rfl (fun _ _ _ _ h => h) (fun _ h => h) (by first | exact Sel.refl _ | exact Sel.tail _ _ | exact Sel.nil _ | exact (Sel.tail _ _).trans (Sel.tail _ _) | exact (Sel.tail _ _).trans ((Sel.tail _ _).trans (Sel.tail _ _))) ?_; (repeat' (first | apply Wpl.nil | (apply Wpl.asg; exact rfl; (conv => lhs; whnf))))); skip
      refine Wph.done (by kernel_rfl) ?_
      exact ⟨(vl, vd, Fl, Fd), ⟨by rw [← ints_replicate]; exact hl, by rw [← ints_replicate]; exact hd⟩, ⟨rfl, rfl, rfl, trivial⟩, Sel.cons 1 rfl (Sel.cons 0 rfl (Sel.nil _)), fun _ h => h⟩
    · refine Wpl.mk1 rfl rfl rfl (by omega) (by omega) (by omega) rfl (fun vd Fd hd => ?_)
      refine Wpl.nil ⟨fun _ h => h, Sel.nil _, ?_⟩
      refine Wph.one 0 (by kernel_rfl) rfl rfl ?_
      refine Wpl.mk1 rfl rfl rfl (by omega) (by omega) (by omega) rfl (fun vl Fl hl => ?_)
      refine Wpl.nil ⟨fun _ h => h, Sel.nil _, ?_⟩
      (refine Wph.take 2 rfl (by kernel_rfl) rfl (fun _ _ _ _ h => h) (fun _ h => h) (by first | exact Sel.refl _ | exact Sel.tail _ _ | exact Sel.nil _ | exact (Sel.tail _ _).trans (Sel.tail _ _) | exact (Sel.tail _ _).trans ((Sel.tail _ _).trans (Sel.tail _ _))) ?_; (repeat' (first | apply Wpl.nil | (apply Wpl.asg; exact rfl; (conv => lhs; whnf))))); (refine Wph.take 3 rfl (by kernel_rfl) rfl (fun _ _ _ _ h => h) (fun _ h => h) (by first | exact Sel.refl _ | exact Sel.tail _ _ | exact Sel.nil _ | exact (Sel.tail _ _).trans (Sel.tail _ _) | exact (Sel.tail _ _).trans ((Sel.tail _ _).trans (Sel.tail _ _))) ?_; (repeat' (first | apply Wpl.nil | (apply Wpl.asg; exact rfl; (conv => lhs; whnf))))); skip
      refine Wph.done (by kernel_rfl) ?_
      exact ⟨(vl, vd, Fl, Fd), ⟨by rw [← ints_replicate]; exact hl, by rw [← ints_replicate]; exact hd⟩, ⟨rfl, rfl, rfl, trivial⟩, Sel.cons 0 rfl (Sel.cons 0 rfl (Sel.nil _)), fun _ h => h⟩
  rintro ⟨vl, vd, Fl, Fd⟩ g ⟨hl, hd⟩
  dsimp only at hl hd ⊢
  repeat' (first | (apply Wpc.seqK; intro K hK) | apply Wpc.region | (apply hK; clear hK K) | (apply Wpl.mv; exact rfl; (conv => lhs; whnf)))
  refine Wpl.idxSt 0 rfl hl rfl rfl rfl (by omega) (by omega) (fun _ => rfl) rfl (fun _ F' hl' => ?_)
  rw [ints_set] at hl'
  repeat' (first | (apply Wpc.seqK; intro K hK) | apply Wpc.region | apply Wpl.nil | (apply hK; clear hK K) | (apply Wpl.mv; exact rfl; (conv => lhs; whnf)) | apply Wpc.block | (apply Wpl.len; exact rfl; exact rfl))
  refine Wpc.loop (ι := Nat × Value × Value × Frag × Frag) (fun i => i.1 ≤ ts.length ∧ OwnRow 3 1 i.2.2.2.1 i.2.1 286 (ints .i64 (cnt (ts.take i.1)).1) ∧ OwnRow 3 1 i.2.2.2.2 i.2.2.1 30 (ints .i64 (cnt (ts.take i.1)).2))
    (fun i => [(4, i.2.1), (5, i.2.2.1), (16, .slice a ts.length cap), (17, .int .i64 ts.length), (18, .int .i64 i.1)]) (fun i => [i.2.2.2.1, i.2.2.2.2]) (fun i => ts.length - i.1) (0, vl, vd, F', Fd)
    ⟨by omega, hl', hd⟩ ⟨rfl, rfl, rfl, rfl, rfl, trivial⟩ (Sel.refl _) ?_
  rintro ⟨k, vl, vd, Fl, Fd⟩ g ⟨hk, hl, hd⟩
  dsimp only at hk hl hd ⊢
  have hll := cnt_len (ts.take k)
  have hbd := cnt_bd (ts.take k)
  have hrl := hl.row
  have hrd := hd.row
  repeat' (first | (apply Wpc.seqK; intro K hK) | apply Wpc.region | apply Wpl.nil | (apply hK; clear hK K) | (apply Wpl.mv; exact rfl; (conv => lhs; whnf)) | (apply Wpl.asg; exact rfl; (conv => lhs; whnf)) | (apply Wpc.cond_true; exact rfl) | (apply Wpc.cond_false; exact rfl) | apply Wpc.block | apply Wpc.skip | apply Wpc.exit | apply Wpc.ret | (apply Wpl.lss; exact rfl; exact rfl; exact rfl; all_goals (intro h; try (exfalso; omega))) | ((conv => whnf); clear hK K; apply hK; clear hK K))
  · have hlt : k < ts.length := by omega
    have hts := take_snoc ts k hlt
    refine Wpl.idxAgg (g := tokC) rfl rfl rfl rfl hv tokC_len (by (exact HasF.r 0 rfl)) (by omega) (by omega) (by decide) (fun _ _ => ?_)
    have e : (k : Int).toNat = k := rfl
    simp only [e]
    generalize ht : ts[k] = t at *
    refine Wpl.new rfl (fun b => ?_)
    refine Wpl.stAgg 0 0 rfl rfl rfl rfl rfl (by intro u hu; simp [tokC] at hu; rcases hu with rfl | rfl <;> rfl) rfl ?_
    have hlb := lenSym_bd t.1
    have hdb := distSym_bd t.2
    have hkl : (ts.take k).length ≤ k := List.length_take_le _ _
    by_cases hA : t.1 = 0 ∧ 0 ≤ t.2 ∧ t.2 < 256
    · have hx := hbd.1 ((cnt (ts.take k)).1[t.2.toNat]'(by omega)) (List.getElem_mem _)
      repeat' (first | (apply Wpc.seqK; intro K hK) | apply Wpc.region | apply Wpl.nil | (apply hK; clear hK K) | (apply Wpl.mv; exact rfl; (conv => lhs; whnf)) | (apply Wpl.guard_run; exact rfl; exact rfl) | (apply Wpl.pickT; exact rfl; exact rfl; (conv => lhs; whnf)) | (apply Wpc.cond_true; exact rfl) | (apply Wpl.fldS; exact rfl; exact rfl; exact rfl; exact rfl) | (apply Wpl.ld0x0; exact rfl; exact rfl; exact rfl; exact rfl) | (apply Wpl.lss; exact rfl; exact rfl; exact rfl; all_goals (intro h; try (exfalso; omega))) | (apply Wpl.geq; exact rfl; exact rfl; exact rfl; all_goals (intro h; try (exfalso; omega))) | (apply Wpl.eql; exact rfl; exact rfl; exact rfl; all_goals (intro h; try (exfalso; omega))) | (apply Wpl.add; exact rfl; exact rfl; exact rfl; omega) | (apply Wpl.idx; exact rfl; exact rfl; exact rfl; exact rfl; assumption; (exact HasF.m 1 rfl); omega; omega; intro _ _))
      refine Wpl.idxSt 1 rfl hl rfl rfl rfl (by omega) (by omega) (fun _ => rfl) rfl (fun _ F2 hl2 => ?_)
      rw [ints_set, incAt_get (by omega)] at hl2
      by_cases h2 : 1 ≤ t.2 ∧ t.2 ≤ 32768
      all_goals repeat' (first | (apply Wpl.callP; exact rfl; exact rfl; exact rfl; exact rfl; (apply lenSym_out; omega); simp) | (apply Wpl.callP; exact rfl; exact rfl; exact rfl; exact rfl; (apply distSym_in; omega); simp) | (apply Wpl.callP; exact rfl; exact rfl; exact rfl; exact rfl; (apply distSym_out; omega); simp) | (apply Wpc.seqK; intro K hK) | apply Wpc.region | apply Wpl.nil | (apply hK; clear hK K) | (apply Wpl.mv; exact rfl; (conv => lhs; whnf)) | (apply Wpl.asg; exact rfl; (conv => lhs; whnf)) | (apply Wpl.guard_skip; exact rfl; exact rfl; exact rfl) | (apply Wpl.pickF; exact rfl; exact rfl; (conv => lhs; whnf)) | (apply Wpc.cond_false; exact rfl) | apply Wpc.skip | (apply Wpl.extract; exact rfl; exact rfl; exact rfl) | (apply Wpl.fldS; exact rfl; exact rfl; exact rfl; exact rfl) | (apply Wpl.ld0x0; exact rfl; exact rfl; exact rfl; exact rfl) | (apply Wpl.add; exact rfl; exact rfl; exact rfl; omega))
      all_goals exact ⟨(k + 1, vl, vd, F2, Fd), ⟨by omega, by rw [hts, cnt_snoc, cntStep_lit hA]; exact hl2, by rw [hts, cnt_snoc, cntStep_lit hA]; exact hd⟩, by omega, ⟨rfl, rfl, rfl, rfl, rfl, trivial⟩, Sel.tail _ _, fun _ h => h⟩
    · by_cases h1 : 3 ≤ t.1 ∧ t.1 ≤ 258
      · by_cases h2 : 1 ≤ t.2 ∧ t.2 ≤ 32768
        · have hx := hbd.1 ((cnt (ts.take k)).1[(lenSym t.1).toNat]'(by omega)) (List.getElem_mem _)
          have hy := hbd.2 ((cnt (ts.take k)).2[(distSym t.2).toNat]'(by omega)) (List.getElem_mem _)
          repeat' (first | (apply Wpl.callP; exact rfl; exact rfl; exact rfl; exact rfl; (apply lenSym_in; omega); simp) | (apply Wpl.callP; exact rfl; exact rfl; exact rfl; exact rfl; (apply distSym_in; omega); simp) | (apply Wpc.seqK; intro K hK) | apply Wpc.region | apply Wpl.nil | (apply hK; clear hK K) | (apply Wpl.mv; exact rfl; (conv => lhs; whnf)) | (apply Wpl.asg; exact rfl; (conv => lhs; whnf)) | (apply Wpl.guard_run; exact rfl; exact rfl) | (apply Wpl.guard_skip; exact rfl; exact rfl; exact rfl) | (apply Wpl.pickT; exact rfl; exact rfl; (conv => lhs; whnf)) | (apply Wpl.pickF; exact rfl; exact rfl; (conv => lhs; whnf)) | (apply Wpc.cond_true; exact rfl) | (apply Wpc.cond_false; exact rfl) | apply Wpc.skip | (apply Wpl.extract; exact rfl; exact rfl; exact rfl) | (apply Wpl.fldS; exact rfl; exact rfl; exact rfl; exact rfl) | (apply Wpl.ld0x0; exact rfl; exact rfl; exact rfl; exact rfl) | (apply Wpl.eql; exact rfl; exact rfl; exact rfl; all_goals (intro h; try (exfalso; omega))) | (apply Wpl.add; exact rfl; exact rfl; exact rfl; omega) | (apply Wpl.idx; exact rfl; exact rfl; exact rfl; exact rfl; assumption; (exact HasF.m 1 rfl); omega; omega; intro _ _))
          refine Wpl.idxSt 1 rfl hl rfl rfl rfl (by omega) (by omega) (fun _ => rfl) rfl (fun _ F2 hl2 => ?_)
          rw [ints_set, incAt_get (by omega)] at hl2
          repeat' (first | apply Wpc.region | apply Wpl.nil | (apply hK; clear hK K) | (apply Wpl.mv; exact rfl; (conv => lhs; whnf)) | (apply Wpl.add; exact rfl; exact rfl; exact rfl; omega) | (apply Wpl.idx; exact rfl; exact rfl; exact rfl; exact rfl; assumption; (exact HasF.m 2 rfl); omega; omega; intro _ _))
          refine Wpl.idxSt 2 rfl hd rfl rfl rfl (by omega) (by omega) (fun _ => rfl) rfl (fun _ F3 hd2 => ?_)
          rw [ints_set, incAt_get (by omega)] at hd2
          repeat' (first | apply Wpc.region | apply Wpl.nil | (apply hK; clear hK K) | (apply Wpl.mv; exact rfl; (conv => lhs; whnf)) | (apply Wpl.add; exact rfl; exact rfl; exact rfl; omega))
          exact ⟨(k + 1, vl, vd, F2, F3), ⟨by omega, by rw [hts, cnt_snoc, cntStep_match h1 h2]; exact hl2, by rw [hts, cnt_snoc, cntStep_match h1 h2]; exact hd2⟩, by omega, ⟨rfl, rfl, rfl, rfl, rfl, trivial⟩, Sel.tail _ _, fun _ h => h⟩
        · repeat' (first | (apply Wpl.callP; exact rfl; exact rfl; exact rfl; exact rfl; (apply lenSym_in; omega); simp) | (apply Wpl.callP; exact rfl; exact rfl; exact rfl; exact rfl; (apply distSym_out; omega); simp) | (apply Wpc.seqK; intro K hK) | apply Wpc.region | apply Wpl.nil | (apply hK; clear hK K) | (apply Wpl.mv; exact rfl; (conv => lhs; whnf)) | (apply Wpl.asg; exact rfl; (conv => lhs; whnf)) | (apply Wpl.guard_run; exact rfl; exact rfl) | (apply Wpl.guard_skip; exact rfl; exact rfl; exact rfl) | (apply Wpl.pickT; exact rfl; exact rfl; (conv => lhs; whnf)) | (apply Wpl.pickF; exact rfl; exact rfl; (conv => lhs; whnf)) | (apply Wpc.cond_false; exact rfl) | apply Wpc.skip | (apply Wpl.extract; exact rfl; exact rfl; exact rfl) | (apply Wpl.fldS; exact rfl; exact rfl; exact rfl; exact rfl) | (apply Wpl.ld0x0; exact rfl; exact rfl; exact rfl; exact rfl) | (apply Wpl.eql; exact rfl; exact rfl; exact rfl; all_goals (intro h; try (exfalso; omega))) | (apply Wpl.add; exact rfl; exact rfl; exact rfl; omega))
          all_goals exact ⟨(k + 1, vl, vd, Fl, Fd), ⟨by omega, by rw [hts, cnt_snoc, cntStep_none hA (by omega)]; exact hl, by rw [hts, cnt_snoc, cntStep_none hA (by omega)]; exact hd⟩, by omega, ⟨rfl, rfl, rfl, rfl, rfl, trivial⟩, Sel.tail _ _, fun _ h => h⟩
      · by_cases h2 : 1 ≤ t.2 ∧ t.2 ≤ 32768
        all_goals repeat' (first | (apply Wpl.callP; exact rfl; exact rfl; exact rfl; exact rfl; (apply lenSym_out; omega); simp) | (apply Wpl.callP; exact rfl; exact rfl; exact rfl; exact rfl; (apply distSym_in; omega); simp) | (apply Wpl.callP; exact rfl; exact rfl; exact rfl; exact rfl; (apply distSym_out; omega); simp) | (apply Wpc.seqK; intro K hK) | apply Wpc.region | apply Wpl.nil | (apply hK; clear hK K) | (apply Wpl.mv; exact rfl; (conv => lhs; whnf)) | (apply Wpl.asg; exact rfl; (conv => lhs; whnf)) | (apply Wpl.guard_run; exact rfl; exact rfl) | (apply Wpl.guard_skip; exact rfl; exact rfl; exact rfl) | (apply Wpl.pickT; exact rfl; exact rfl; (conv => lhs; whnf)) | (apply Wpl.pickF; exact rfl; exact rfl; (conv => lhs; whnf)) | (apply Wpc.cond_false; exact rfl) | apply Wpc.skip | (apply Wpl.extract; exact rfl; exact rfl; exact rfl) | (apply Wpl.fldS; exact rfl; exact rfl; exact rfl; exact rfl) | (apply Wpl.ld0x0; exact rfl; exact rfl; exact rfl; exact rfl) | (apply Wpl.lss; exact rfl; exact rfl; exact rfl; all_goals (intro h; try (exfalso; omega))) | (apply Wpl.geq; exact rfl; exact rfl; exact rfl; all_goals (intro h; try (exfalso; omega))) | (apply Wpl.eql; exact rfl; exact rfl; exact rfl; all_goals (intro h; try (exfalso; omega))) | (apply Wpl.add; exact rfl; exact rfl; exact rfl; omega))
        all_goals exact ⟨(k + 1, vl, vd, Fl, Fd), ⟨by omega, by rw [hts, cnt_snoc, cntStep_none hA (by omega)]; exact hl, by rw [hts, cnt_snoc, cntStep_none hA (by omega)]; exact hd⟩, by omega, ⟨rfl, rfl, rfl, rfl, rfl, trivial⟩, Sel.tail _ _, fun _ h => h⟩
  · have : k = ts.length := by omega
    subst this
    rw [List.take_length] at hl hd
    exact ⟨[_, _], _, ⟨rfl, rfl, trivial⟩, Sel.refl _, fun _ h => h, vl, vd, Fl, Fd, rfl, rfl, hl, hd⟩
end Go.Proofs.Ytmfcgffdijnokaa
set_option maxRecDepth 100000
set_option maxHeartbeats 4000000
namespace Go.Proofs.Ytmfcgffdijnokaa
open Go.SL Go.RowKit
attribute [local irreducible] Wpl Wpc Wph
/-! bits.Writer -/
def bytes8 (bs : List Int) : Prop := ∀ x ∈ bs, 0 ≤ x ∧ x ≤ 255
/-- a writer: its state is its bytes and its count of bits -/
structure Wr (hi : Bool) (bs : List Int) (n : Nat) (v : Value) (FW FB : Frag) : Prop where
  at_ : ∃ b vs, v = .pointer (some ⟨b, 0, none⟩) ∧ FW = [(b, .cells #[.bool hi, vs, .int .i64 n] 85 (0, 0))] ∧ OwnRow 5 1 FB vs bs.length (ints .u8 bs)
  len : bs.length = (n + 7) / 8
  bd : bytes8 bs

theorem newWriter_spec (hi : Bool) : Ctr Try.prog 8 [.bool hi] [] [] (fun v M' => ∃ FW FB, M' = [FW, FB] ∧ Wr hi [] 0 v FW FB) := by
  refine Ctr.intro Try.func8 (by kernel_rfl) rfl (by conv => lhs; whnf) rfl fun W => ?_
  repeat' (first | (apply Wpc.seqK; intro K hK) | apply Wpc.region | apply Wpl.nil | (apply hK; clear hK K) | (apply Wpl.mv; exact rfl; (conv => lhs; whnf)) | (apply Wpl.asg; exact rfl; (conv => lhs; whnf)))
  refine Wpl.build (cs := [.bool hi, .slice none 0 0, .int .i64 0]) rfl rfl ?_
  refine Wpl.boxA (c := #[.bool hi, .slice none 0 0, .int .i64 0]) rfl rfl (fun b => ?_)
  refine Wpl.addNil ?_
  repeat' (first | apply Wpl.nil | (apply hK; clear hK K) | (apply Wpl.asg; exact rfl; (conv => lhs; whnf)) | apply Wpc.ret)
  exact ⟨[_], _, ⟨rfl, trivial⟩, Sel.cons 1 rfl (Sel.cons 0 rfl (Sel.nil _)), fun _ h => h, _, _, rfl, ⟨b, _, rfl, rfl, OwnRow.nil _ _⟩, rfl, fun x hx => by cases hx⟩

theorem len_nil_spec : PSpec Try.prog 14 [.pointer none] [] (.int .i64 0) := by
  refine Ctr.intro Try.func14 (by kernel_rfl) rfl (by conv => lhs; whnf) rfl fun W => ?_
  repeat' (first | (apply Wpc.seqK; intro K hK) | apply Wpc.region | apply Wpl.nil | (apply hK; clear hK K) | (apply Wpl.mv; exact rfl; (conv => lhs; whnf)) | (apply Wpl.asg; exact rfl; (conv => lhs; whnf)) | (apply Wpc.cond_true; exact rfl) | apply Wpc.ret | (apply Wpl.ptrEq; exact rfl; exact rfl; exact rfl; exact rfl))
  exact ⟨[_], [], ⟨rfl, trivial⟩, Sel.nil _, fun _ h => h, rfl, rfl⟩
theorem wlen_spec {hi : Bool} {bs : List Int} {n : Nat} {v : Value} {FW FB : Frag} (h : Wr hi bs n v FW FB) : PSpec Try.prog 14 [v] [FW] (.int .i64 n) := by
  obtain ⟨⟨b, vs, rfl, rfl, hr⟩, _, _⟩ := h
  refine Ctr.intro Try.func14 (by kernel_rfl) rfl (by conv => lhs; whnf) rfl fun W => ?_
  repeat' (first | (apply Wpc.seqK; intro K hK) | apply Wpc.region | apply Wpl.nil | (apply hK; clear hK K) | (apply Wpl.mv; exact rfl; (conv => lhs; whnf)) | (apply Wpl.asg; exact rfl; (conv => lhs; whnf)) | (apply Wpc.cond_false; exact rfl) | apply Wpc.skip | apply Wpc.ret | (apply Wpl.nilCheck; exact rfl; exact rfl) | (apply Wpl.fldS; exact rfl; exact rfl; exact rfl; exact rfl) | (apply Wpl.ldR0; exact rfl; exact rfl; exact rfl; exact rfl) | (apply Wpl.ptrEq; exact rfl; exact rfl; exact rfl; exact rfl))
  exact ⟨[_], [], ⟨rfl, trivial⟩, Sel.nil _, fun _ h => h, rfl, rfl⟩
theorem high_spec {hi : Bool} {bs : List Int} {n : Nat} {v : Value} {FW FB : Frag} (h : Wr hi bs n v FW FB) : PSpec Try.prog 92 [v] [FW] (.bool hi) := by
  obtain ⟨⟨b, vs, rfl, rfl, hr⟩, _, _⟩ := h
  refine Ctr.intro Try.func92 (by kernel_rfl) rfl (by conv => lhs; whnf) rfl fun W => ?_
  repeat' (first | (apply Wpc.seqK; intro K hK) | apply Wpc.region | apply Wpl.nil | (apply hK; clear hK K) | (apply Wpl.mv; exact rfl; (conv => lhs; whnf)) | (apply Wpl.asg; exact rfl; (conv => lhs; whnf)) | (apply Wpl.guard_run; exact rfl; exact rfl) | (apply Wpl.pickT; exact rfl; exact rfl; (conv => lhs; whnf)) | apply Wpc.ret | (apply Wpl.nilCheck; exact rfl; exact rfl) | (apply Wpl.fldS; exact rfl; exact rfl; exact rfl; exact rfl) | (apply Wpl.ldR0; exact rfl; exact rfl; exact rfl; exact rfl) | (apply Wpl.ptrNe; exact rfl; exact rfl; exact rfl; exact rfl))
  exact ⟨[_], [], ⟨rfl, trivial⟩, Sel.nil _, fun _ h => h, rfl, rfl⟩
theorem high_nil_spec : PSpec Try.prog 92 [.pointer none] [] (.bool false) := by
  refine Ctr.intro Try.func92 (by kernel_rfl) rfl (by conv => lhs; whnf) rfl fun W => ?_
  repeat' (first | (apply Wpc.seqK; intro K hK) | apply Wpc.region | apply Wpl.nil | (apply hK; clear hK K) | (apply Wpl.mv; exact rfl; (conv => lhs; whnf)) | (apply Wpl.asg; exact rfl; (conv => lhs; whnf)) | (apply Wpl.guard_skip; exact rfl; exact rfl; exact rfl) | (apply Wpl.pickF; exact rfl; exact rfl; (conv => lhs; whnf)) | apply Wpc.ret | (apply Wpl.ptrNe; exact rfl; exact rfl; exact rfl; exact rfl))
  exact ⟨[_], [], ⟨rfl, trivial⟩, Sel.nil _, fun _ h => h, rfl, rfl⟩
def fillM (hi : Bool) : Int := if hi then 1 else 0
theorem fill_spec {hi : Bool} {bs : List Int} {n : Nat} {v : Value} {FW FB : Frag} (h : Wr hi bs n v FW FB) : PSpec Try.prog 134 [v] [FW] (.int .i64 (fillM hi)) := by
  obtain ⟨⟨b, vs, rfl, rfl, hr⟩, _, _⟩ := h
  cases hi
  all_goals
    refine Ctr.intro Try.func134 (by kernel_rfl) rfl (by conv => lhs; whnf) rfl fun W => ?_
    repeat' (first | (apply Wpc.seqK; intro K hK) | apply Wpc.region | apply Wpl.nil | (apply hK; clear hK K) | (apply Wpl.mv; exact rfl; (conv => lhs; whnf)) | (apply Wpl.asg; exact rfl; (conv => lhs; whnf)) | (apply Wpc.cond_true; exact rfl) | (apply Wpc.cond_false; exact rfl) | apply Wpc.skip | apply Wpc.ret | (apply Wpl.nilCheck; exact rfl; exact rfl) | (apply Wpl.fldS; exact rfl; exact rfl; exact rfl; exact rfl) | (apply Wpl.ldR0; exact rfl; exact rfl; exact rfl; exact rfl))
    exact ⟨[_], [], ⟨rfl, trivial⟩, Sel.nil _, fun _ h => h, rfl, rfl⟩

/-- one bit more -/
def orLast (hi : Bool) (bs : List Int) (n : Nat) (bit : Int) : List Int :=
  bs.set (bs.length - 1) (((bs[bs.length - 1]?.getD 0).toNat ||| (bit * 2 ^ (shiftM hi n).toNat % 256).toNat : Nat) : Int)
def bitM (hi : Bool) (bs : List Int) (n : Nat) (bit : Int) : List Int :=
  if n % 8 = 0 then orLast hi (bs ++ [0]) n bit else orLast hi bs n bit
theorem shiftM_bd (hi : Bool) (n : Nat) : 0 ≤ shiftM hi n ∧ shiftM hi n ≤ 7 := by unfold shiftM; split <;> omega
theorem bit_shift {bit s : Int} (hb : 0 ≤ bit ∧ bit ≤ 1) (hs : 0 ≤ s ∧ s ≤ 7) : 0 ≤ bit * 2 ^ s.toNat ∧ bit * 2 ^ s.toNat ≤ 128 := by
  have : s.toNat ≤ 7 := by omega
  have h2 : (2 : Int) ^ s.toNat ≤ 2 ^ 7 := by exact_mod_cast Nat.pow_le_pow_right (by decide) this
  have h4 : (0 : Int) < 2 ^ s.toNat := Int.pow_pos (by decide)
  rcases (show bit = 0 ∨ bit = 1 by omega) with rfl | rfl <;> omega
theorem or_bd {a b : Nat} (ha : a ≤ 255) (hb : b ≤ 255) : a ||| b ≤ 255 := by
  have := Nat.or_lt_two_pow (x := a) (y := b) (n := 8) (by omega) (by omega)
  omega
theorem orLast_len (hi : Bool) (bs : List Int) (n : Nat) (bit : Int) : (orLast hi bs n bit).length = bs.length := by simp [orLast]
theorem orLast_bd {hi : Bool} {bs : List Int} {n : Nat} {bit : Int} (h : bytes8 bs) : bytes8 (orLast hi bs n bit) := by
  intro x hx
  rcases List.mem_or_eq_of_mem_set hx with hx | rfl
  · exact h x hx
  · have h1 : (bs[bs.length - 1]?.getD 0).toNat ≤ 255 := by
      cases hg : bs[bs.length - 1]? with
      | none => simp
      | some y => have := h y (List.mem_of_getElem? hg); simp; omega
    have := or_bd h1 (b := (bit * 2 ^ (shiftM hi n).toNat % 256).toNat) (by omega)
    omega
theorem bitM_len {hi : Bool} {bs : List Int} {n : Nat} {bit : Int} (h : bs.length = (n + 7) / 8) : (bitM hi bs n bit).length = (n + 1 + 7) / 8 := by
  unfold bitM
  split <;> simp [orLast_len] <;> omega
theorem bitM_bd {hi : Bool} {bs : List Int} {n : Nat} {bit : Int} (h : bytes8 bs) : bytes8 (bitM hi bs n bit) := by
  unfold bitM
  split
  · refine orLast_bd fun x hx => ?_
    rcases List.mem_append.1 hx with hx | hx
    · exact h x hx
    · simp at hx; omega
  · exact orLast_bd h
theorem bit_spec {hi : Bool} {bs : List Int} {n : Nat} {v : Value} {FW FB : Frag} {bit : Int} (h : Wr hi bs n v FW FB) (hn : n ≤ 1000000000000000) (hb : 0 ≤ bit ∧ bit ≤ 1) :
    Ctr Try.prog 133 [v, .int .i64 bit] [] [FW, FB] (fun _ M' => ∃ FW' FB', M' = [FW', FB'] ∧ Wr hi (bitM hi bs n bit) (n + 1) v FW' FB') := by
  obtain ⟨⟨b, vs, rfl, rfl, hr⟩, hl, hd⟩ := h
  refine Ctr.intro Try.func133 (by kernel_rfl) rfl (by conv => lhs; whnf) rfl fun W => ?_
  repeat' (first | (apply Wpc.seqK; intro K hK) | apply Wpc.region | (apply Wpl.mv; exact rfl; (conv => lhs; whnf)) | (apply Wpl.nilCheck; exact rfl; exact rfl) | (apply Wpl.fldS; exact rfl; exact rfl; exact rfl; exact rfl) | (apply Wpl.ld0x0; exact rfl; exact rfl; exact rfl; exact rfl) | (apply Wpl.rem; exact rfl; exact rfl; exact rfl; omega))
  refine Wpl.cmpV (t := decide ((n : Int) % 8 = 0)) rfl rfl rfl (.inr (.inr (.inr (.inr (.inl ⟨rfl, rfl⟩))))) ?_
  repeat' (first | apply Wpl.nil | (apply hK; clear hK K))
  refine Wpc.join (ι := Value × Frag × List Int) (fun i => OwnRow 5 1 i.2.1 i.1 i.2.2.length (ints .u8 i.2.2) ∧ i.2.2.length = (n + 8) / 8 ∧ bytes8 i.2.2 ∧ orLast hi i.2.2 n bit = bitM hi bs n bit)
    (fun i => [(0, .pointer (some ⟨b, 0, none⟩)), (1, .int .i64 bit)]) (fun i => [[(b, .cells #[.bool hi, i.1, .int .i64 n] 85 (0, 0))], i.2.1]) ?_ ?_
  · by_cases h8 : (n : Int) % 8 = 0
    · refine Wpc.cond_true (by show Value.bool (decide _) = _; rw [decide_eq_true h8]) ?_
      repeat' (first | apply Wpc.region | (apply Wpl.mv; exact rfl; (conv => lhs; whnf)) | (apply Wpl.nilCheck; exact rfl; exact rfl) | (apply Wpl.fldS; exact rfl; exact rfl; exact rfl; exact rfl) | (apply Wpl.ld0x0; exact rfl; exact rfl; exact rfl; exact rfl))
      refine Wpl.appI 1 rfl rfl rfl rfl rfl rfl hr (by omega) (by omega) (fun p v' F' hr' => ?_)
      repeat' (first | (apply Wpl.nilCheck; exact rfl; exact rfl) | (apply Wpl.fldS; exact rfl; exact rfl; exact rfl; exact rfl))
      refine Wpl.st0_0 rfl rfl rfl rfl (hr'.row.one) (by simp) ?_
      repeat' (apply Wpl.nil)
      exact ⟨(v', F', bs ++ [0]), ⟨by simpa using hr', by show (bs ++ [0]).length = _; simp; omega, fun x hx => by
        rcases List.mem_append.1 hx with hx | hx
        · exact hd x hx
        · simp at hx; omega, by rw [bitM, if_pos (by omega)]⟩, ⟨rfl, rfl, trivial⟩, Sel.refl _, fun _ h => h⟩
    · refine Wpc.cond_false (by show Value.bool (decide _) = _; rw [decide_eq_false h8]) ?_
      repeat' (apply Wpc.skip)
      exact ⟨(vs, FB, bs), ⟨hr, by show bs.length = _; omega, hd, by rw [bitM, if_neg (by omega)]⟩, ⟨rfl, rfl, trivial⟩, Sel.refl _, fun _ h => h⟩
  rintro ⟨v', F', bs'⟩ g ⟨hr', hp, hd', he⟩
  dsimp only at hr' hp hd' he ⊢
  have hsb := shiftM_bd hi n
  have hbs := bit_shift hb hsb
  have hnat : (((bs'.length : Nat) : Int) - 1).toNat = bs'.length - 1 := by omega
  obtain ⟨b2, c2, rfl, rfl, hm, hc, hr2⟩ := hr'.at (m := (((bs'.length : Nat) : Int) - 1).toNat) (by omega) (.int .u8 (((bs'[bs'.length - 1]?.getD 0).toNat ||| (bit * 2 ^ (shiftM hi n).toNat % 256).toNat : Nat) : Int))
  have hget : bs'[bs'.length - 1]? = some (bs'[bs'.length - 1]'(by omega)) := List.getElem?_eq_getElem _
  have hval := hd' (bs'[bs'.length - 1]'(by omega)) (List.getElem_mem _)
  have hc' : c2.toList[(((bs'.length : Nat) : Int) - 1).toNat]? = some (.int .u8 (bs'[bs'.length - 1]'(by omega))) := by rw [hc, hnat]; simp [ints, hget]
  rw [hget, Option.getD_some] at hr2
  repeat' (first | (apply Wpc.seqK; intro K hK) | (apply hK; clear hK K))
  refine Wpc.region_tail 26 [] [[(b, .cells #[.bool hi, .slice (some ⟨b2, 0, none⟩) bs'.length c2.size, .int .i64 n] 85 (0, 0))], [(b2, .cells c2 5 (0, 0))]] 27 (by kernel_rfl) rfl _ rfl ?_
  (refine Wpt.take 0 rfl (by kernel_rfl) rfl (fun _ _ _ _ h => h) (fun _ h => h) (by first | exact Sel.refl _ | exact Sel.tail _ _ | exact Sel.nil _ | exact (Sel.tail _ _).trans (Sel.tail _ _) | exact (Sel.tail _ _).trans ((Sel.tail _ _).trans (Sel.tail _ _))) ?_; (repeat' (first | apply Wpl.nil | (apply Wpl.mv; exact rfl; (conv => lhs; whnf))))); (refine Wpt.take 1 rfl (by kernel_rfl) rfl (fun _ _ _ _ h => h) (fun _ h => h) (by first | exact Sel.refl _ | exact Sel.tail _ _ | exact Sel.nil _ | exact (Sel.tail _ _).trans (Sel.tail _ _) | exact (Sel.tail _ _).trans ((Sel.tail _ _).trans (Sel.tail _ _))) ?_; (repeat' (first | apply Wpl.nil | (apply Wpl.nilCheck; exact rfl; exact rfl)))); (refine Wpt.take 2 rfl (by kernel_rfl) rfl (fun _ _ _ _ h => h) (fun _ h => h) (by first | exact Sel.refl _ | exact Sel.tail _ _ | exact Sel.nil _ | exact (Sel.tail _ _).trans (Sel.tail _ _) | exact (Sel.tail _ _).trans ((Sel.tail _ _).trans (Sel.tail _ _))) ?_; (repeat' (first | apply Wpl.nil | (apply Wpl.fldS; exact rfl; exact rfl; exact rfl; exact rfl)))); (refine Wpt.take 3 rfl (by kernel_rfl) rfl (fun _ _ _ _ h => h) (fun _ h => h) (by first | exact Sel.refl _ | exact Sel.tail _ _ | exact Sel.nil _ | exact (Sel.tail _ _).trans (Sel.tail _ _) | exact (Sel.tail _ _).trans ((Sel.tail _ _).trans (Sel.tail _ _))) ?_; (repeat' (first | apply Wpl.nil | (apply Wpl.ld0x0; exact rfl; exact rfl; exact rfl; exact rfl)))); (refine Wpt.take 4 rfl (by kernel_rfl) rfl (fun _ _ _ _ h => h) (fun _ h => h) (by first | exact Sel.refl _ | exact Sel.tail _ _ | exact Sel.nil _ | exact (Sel.tail _ _).trans (Sel.tail _ _) | exact (Sel.tail _ _).trans ((Sel.tail _ _).trans (Sel.tail _ _))) ?_; (repeat' (first | apply Wpl.nil | (apply Wpl.mv; exact rfl; (conv => lhs; whnf))))); (refine Wpt.take 5 rfl (by kernel_rfl) rfl (fun _ _ _ _ h => h) (fun _ h => h) (by first | exact Sel.refl _ | exact Sel.tail _ _ | exact Sel.nil _ | exact (Sel.tail _ _).trans (Sel.tail _ _) | exact (Sel.tail _ _).trans ((Sel.tail _ _).trans (Sel.tail _ _))) ?_; (repeat' (first | apply Wpl.nil | (apply Wpl.nilCheck; exact rfl; exact rfl)))); (refine Wpt.take 6 rfl (by kernel_rfl) rfl (fun _ _ _ _ h => h) (fun _ h => h) (by first | exact Sel.refl _ | exact Sel.tail _ _ | exact Sel.nil _ | exact (Sel.tail _ _).trans (Sel.tail _ _) | exact (Sel.tail _ _).trans ((Sel.tail _ _).trans (Sel.tail _ _))) ?_; (repeat' (first | apply Wpl.nil | (apply Wpl.fldS; exact rfl; exact rfl; exact rfl; exact rfl)))); (refine Wpt.take 7 rfl (by kernel_rfl) rfl (fun _ _ _ _ h => h) (fun _ h => h) (by first | exact Sel.refl _ | exact Sel.tail _ _ | exact Sel.nil _ | exact (Sel.tail _ _).trans (Sel.tail _ _) | exact (Sel.tail _ _).trans ((Sel.tail _ _).trans (Sel.tail _ _))) ?_; (repeat' (first | apply Wpl.nil | (apply Wpl.ld0x0; exact rfl; exact rfl; exact rfl; exact rfl)))); (refine Wpt.take 8 rfl (by kernel_rfl) rfl (fun _ _ _ _ h => h) (fun _ h => h) (by first | exact Sel.refl _ | exact Sel.tail _ _ | exact Sel.nil _ | exact (Sel.tail _ _).trans (Sel.tail _ _) | exact (Sel.tail _ _).trans ((Sel.tail _ _).trans (Sel.tail _ _))) ?_; (repeat' (first | apply Wpl.nil | (apply Wpl.len; exact rfl; exact rfl)))); (refine Wpt.take 9 rfl (by kernel_rfl) rfl (fun _ _ _ _ h => h) (fun _ h => h) (by first | exact Sel.refl _ | exact Sel.tail _ _ | exact Sel.nil _ | exact (Sel.tail _ _).trans (Sel.tail _ _) | exact (Sel.tail _ _).trans ((Sel.tail _ _).trans (Sel.tail _ _))) ?_; (repeat' (first | apply Wpl.nil | (apply Wpl.sub; exact rfl; exact rfl; exact rfl; omega)))); skip
  refine Wpt.take 10 rfl (by kernel_rfl) rfl (fun _ _ _ _ h => h) (fun _ h => h) (by first | exact Sel.refl _ | exact Sel.tail _ _ | exact Sel.nil _ | exact (Sel.tail _ _).trans (Sel.tail _ _) | exact (Sel.tail _ _).trans ((Sel.tail _ _).trans (Sel.tail _ _))) ?_
  refine Wpl.idxOf rfl rfl rfl (by omega) (by omega) ?_
  repeat' (apply Wpl.nil)
  refine Wpt.take 11 rfl (by kernel_rfl) rfl (fun _ _ _ _ h => h) (fun _ h => h) (by first | exact Sel.refl _ | exact Sel.tail _ _ | exact Sel.nil _ | exact (Sel.tail _ _).trans (Sel.tail _ _) | exact (Sel.tail _ _).trans ((Sel.tail _ _).trans (Sel.tail _ _))) ?_
  refine Wpl.ld1x0 rfl rfl rfl hc' ?_
  repeat' (apply Wpl.nil)
  (refine Wpt.take 12 rfl (by kernel_rfl) rfl (fun _ _ _ _ h => h) (fun _ h => h) (by first | exact Sel.refl _ | exact Sel.tail _ _ | exact Sel.nil _ | exact (Sel.tail _ _).trans (Sel.tail _ _) | exact (Sel.tail _ _).trans ((Sel.tail _ _).trans (Sel.tail _ _))) ?_; (repeat' (first | apply Wpl.nil | (apply Wpl.mv; exact rfl; (conv => lhs; whnf))))); (refine Wpt.take 13 rfl (by kernel_rfl) rfl (fun _ _ _ _ h => h) (fun _ h => h) (by first | exact Sel.refl _ | exact Sel.tail _ _ | exact Sel.nil _ | exact (Sel.tail _ _).trans (Sel.tail _ _) | exact (Sel.tail _ _).trans ((Sel.tail _ _).trans (Sel.tail _ _))) ?_; (repeat' (first | apply Wpl.nil | (apply Wpl.mv; exact rfl; (conv => lhs; whnf))))); (refine Wpt.take 14 rfl (by kernel_rfl) rfl (fun _ _ _ _ h => h) (fun _ h => h) (by first | exact Sel.refl _ | exact Sel.tail _ _ | exact Sel.nil _ | exact (Sel.tail _ _).trans (Sel.tail _ _) | exact (Sel.tail _ _).trans ((Sel.tail _ _).trans (Sel.tail _ _))) ?_; (repeat' (first | apply Wpl.nil | (apply Wpl.nilCheck; exact rfl; exact rfl)))); (refine Wpt.take 15 rfl (by kernel_rfl) rfl (fun _ _ _ _ h => h) (fun _ h => h) (by first | exact Sel.refl _ | exact Sel.tail _ _ | exact Sel.nil _ | exact (Sel.tail _ _).trans (Sel.tail _ _) | exact (Sel.tail _ _).trans ((Sel.tail _ _).trans (Sel.tail _ _))) ?_; (repeat' (first | apply Wpl.nil | (apply Wpl.fldS; exact rfl; exact rfl; exact rfl; exact rfl)))); (refine Wpt.take 16 rfl (by kernel_rfl) rfl (fun _ _ _ _ h => h) (fun _ h => h) (by first | exact Sel.refl _ | exact Sel.tail _ _ | exact Sel.nil _ | exact (Sel.tail _ _).trans (Sel.tail _ _) | exact (Sel.tail _ _).trans ((Sel.tail _ _).trans (Sel.tail _ _))) ?_; (repeat' (first | apply Wpl.nil | (apply Wpl.ld0x0; exact rfl; exact rfl; exact rfl; exact rfl)))); (refine Wpt.take 17 rfl (by kernel_rfl) rfl (fun _ _ _ _ h => h) (fun _ h => h) (by first | exact Sel.refl _ | exact Sel.tail _ _ | exact Sel.nil _ | exact (Sel.tail _ _).trans (Sel.tail _ _) | exact (Sel.tail _ _).trans ((Sel.tail _ _).trans (Sel.tail _ _))) ?_; (repeat' (first | apply Wpl.nil | (apply Wpl.mv; exact rfl; (conv => lhs; whnf))))); (refine Wpt.take 18 rfl (by kernel_rfl) rfl (fun _ _ _ _ h => h) (fun _ h => h) (by first | exact Sel.refl _ | exact Sel.tail _ _ | exact Sel.nil _ | exact (Sel.tail _ _).trans (Sel.tail _ _) | exact (Sel.tail _ _).trans ((Sel.tail _ _).trans (Sel.tail _ _))) ?_; (repeat' (first | apply Wpl.nil | (apply Wpl.nilCheck; exact rfl; exact rfl)))); (refine Wpt.take 19 rfl (by kernel_rfl) rfl (fun _ _ _ _ h => h) (fun _ h => h) (by first | exact Sel.refl _ | exact Sel.tail _ _ | exact Sel.nil _ | exact (Sel.tail _ _).trans (Sel.tail _ _) | exact (Sel.tail _ _).trans ((Sel.tail _ _).trans (Sel.tail _ _))) ?_; (repeat' (first | apply Wpl.nil | (apply Wpl.fldS; exact rfl; exact rfl; exact rfl; exact rfl)))); (refine Wpt.take 20 rfl (by kernel_rfl) rfl (fun _ _ _ _ h => h) (fun _ h => h) (by first | exact Sel.refl _ | exact Sel.tail _ _ | exact Sel.nil _ | exact (Sel.tail _ _).trans (Sel.tail _ _) | exact (Sel.tail _ _).trans ((Sel.tail _ _).trans (Sel.tail _ _))) ?_; (repeat' (first | apply Wpl.nil | (apply Wpl.ld0x0; exact rfl; exact rfl; exact rfl; exact rfl)))); skip
  refine Wpt.one 21 (by kernel_rfl) rfl rfl ?_
  repeat' (first | (apply Wpl.callP; exact rfl; exact rfl; exact rfl; exact rfl; (exact shift_spec hi n (by omega)); (exact HasF.nil)) | apply Wpl.nil)
  refine ⟨fun _ h => h, Sel.refl _, ?_⟩
  refine Wpt.take 22 rfl (by kernel_rfl) rfl (fun _ _ _ _ h => h) (fun _ h => h) (by first | exact Sel.refl _ | exact Sel.tail _ _ | exact Sel.nil _ | exact (Sel.tail _ _).trans (Sel.tail _ _) | exact (Sel.tail _ _).trans ((Sel.tail _ _).trans (Sel.tail _ _))) ?_
  refine Wpl.shl rfl rfl rfl (by omega) (by omega) ?_
  repeat' (apply Wpl.nil)
  refine Wpt.take 23 rfl (by kernel_rfl) rfl (fun _ _ _ _ h => h) (fun _ h => h) (by first | exact Sel.refl _ | exact Sel.tail _ _ | exact Sel.nil _ | exact (Sel.tail _ _).trans (Sel.tail _ _) | exact (Sel.tail _ _).trans ((Sel.tail _ _).trans (Sel.tail _ _))) ?_
  refine Wpl.u8 rfl rfl ?_
  repeat' (apply Wpl.nil)
  refine Wpt.take 24 rfl (by kernel_rfl) rfl (fun _ _ _ _ h => h) (fun _ h => h) (by first | exact Sel.refl _ | exact Sel.tail _ _ | exact Sel.nil _ | exact (Sel.tail _ _).trans (Sel.tail _ _) | exact (Sel.tail _ _).trans ((Sel.tail _ _).trans (Sel.tail _ _))) ?_
  refine Wpl.or8 rfl rfl rfl (by omega) (by omega) ?_
  repeat' (apply Wpl.nil)
  refine Wpt.take 25 rfl (by kernel_rfl) rfl (fun _ _ _ _ h => h) (fun _ h => h) (by first | exact Sel.refl _ | exact Sel.tail _ _ | exact Sel.nil _ | exact (Sel.tail _ _).trans (Sel.tail _ _) | exact (Sel.tail _ _).trans ((Sel.tail _ _).trans (Sel.tail _ _))) ?_
  refine Wpl.idxOf rfl rfl rfl (by omega) (by omega) ?_
  repeat' (apply Wpl.nil)
  refine Wpt.tail (by kernel_rfl) rfl rfl ?_
  refine Wpl.st1_0 rfl rfl rfl rfl rfl hm ?_
  repeat' (first | apply Wpc.region | apply Wpl.nil | (apply hK; clear hK K) | (apply Wpl.mv; exact rfl; (conv => lhs; whnf)) | (apply Wpl.nilCheck; exact rfl; exact rfl) | (apply Wpl.fldS; exact rfl; exact rfl; exact rfl; exact rfl) | (apply Wpl.ld0x0; exact rfl; exact rfl; exact rfl; exact rfl) | (apply Wpl.add; exact rfl; exact rfl; exact rfl; omega))
  refine Wpl.st0_0 rfl rfl rfl rfl rfl (by simp) ?_
  repeat' (apply Wpl.nil)
  have hk : (ints .u8 bs').set (((bs'.length : Nat) : Int) - 1).toNat (.int .u8 (((bs'[bs'.length - 1]'(by omega)).toNat ||| (bit * 2 ^ (shiftM hi n).toNat % 256).toNat : Nat) : Int)) = ints .u8 (bitM hi bs n bit) := by
    rw [hnat, ints_set, ← he, orLast, hget, Option.getD_some]
  exact ⟨[], _, trivial, Sel.refl _, fun _ h => h, _, _, rfl, ⟨b, _, rfl, rfl, hr2.cast (by rw [← he, orLast_len]) hk⟩, bitM_len hl, bitM_bd hd⟩
end Go.Proofs.Ytmfcgffdijnokaa
set_option maxRecDepth 100000
set_option maxHeartbeats 4000000
namespace Go.Proofs.Ytmfcgffdijnokaa
open Go.SL Go.RowKit
attribute [local irreducible] Wpl Wpc Wph
/-! bits.Writer.Put, Align -/
def errV (n : Int) : Value := .iface 40 (.int .i64 n)
theorem put_nil_spec (a c : Int) : PSpec Try.prog 93 [.pointer none, .int .i64 a, .int .i64 c] [] (errV 7) := by
  refine Ctr.intro Try.func93 (by kernel_rfl) rfl (by conv => lhs; whnf) rfl fun W => ?_
  repeat' (first | (apply Wpc.seqK; intro K hK) | apply Wpc.region | apply Wpl.nil | (apply hK; clear hK K) | (apply Wpl.mv; exact rfl; (conv => lhs; whnf)) | (apply Wpl.asg; exact rfl; (conv => lhs; whnf)) | (apply Wpl.guard_skip; exact rfl; exact rfl; exact rfl) | (apply Wpl.pickT; exact rfl; exact rfl; (conv => lhs; whnf)) | (apply Wpc.cond_true; exact rfl) | apply Wpc.ret | (apply Wpl.ptrEq; exact rfl; exact rfl; exact rfl; exact rfl) | (apply Wpl.iface; exact rfl; (conv => lhs; whnf)))
  exact ⟨[_], [], ⟨rfl, trivial⟩, Sel.nil _, fun _ h => h, rfl, rfl⟩

def bitOf (hi : Bool) (v cnt : Int) (k : Nat) : Int := (((v / 2 ^ (pickM hi k cnt).toNat).toNat &&& (1 : Int).toNat : Nat) : Int)
theorem bitOf_bd (hi : Bool) (v cnt : Int) (k : Nat) : 0 ≤ bitOf hi v cnt k ∧ bitOf hi v cnt k ≤ 1 := by
  unfold bitOf
  have : (v / 2 ^ (pickM hi k cnt).toNat).toNat &&& (1 : Int).toNat ≤ (1 : Int).toNat := Nat.and_le_right
  have e : (1 : Int).toNat = 1 := rfl
  omega
def putB (hi : Bool) (v cnt : Int) : Nat → List Int → Nat → List Int
  | 0, bs, _ => bs
  | k + 1, bs, n => bitM hi (putB hi v cnt k bs n) (n + k) (bitOf hi v cnt k)
theorem pickM_bd {hi : Bool} {k cnt : Int} (h : 0 ≤ k ∧ k < cnt) : 0 ≤ pickM hi k cnt ∧ pickM hi k cnt < cnt := by unfold pickM; split <;> omega
theorem put_spec {hi : Bool} {bs : List Int} {n : Nat} {v : Value} {FW FB : Frag} {a c : Int} (h0 : Wr hi bs n v FW FB) (hn : n ≤ 900000000000000) (hc : 0 ≤ c ∧ c ≤ 32) (ha : 0 ≤ a ∧ a ≤ 9223372036854775807) (hz : a / 2 ^ c.toNat = 0) :
    Ctr Try.prog 93 [v, .int .i64 a, .int .i64 c] [] [FW, FB] (fun r M' => ∃ FW' FB', r = .nilIface ∧ M' = [FW', FB'] ∧ Wr hi (putB hi a c c.toNat bs n) (n + c.toNat) v FW' FB') := by
  obtain ⟨b, vs, rfl, rfl, hr⟩ := h0.at_
  refine Ctr.intro Try.func93 (by kernel_rfl) rfl (by conv => lhs; whnf) rfl fun W => ?_
  have hcs := counted_spec c
  rw [decide_eq_true hc] at hcs
  repeat' (first | (apply Wpl.callP; exact rfl; exact rfl; exact rfl; exact rfl; (exact hcs); (exact HasF.nil)) | (apply Wpc.seqK; intro K hK) | apply Wpc.region | apply Wpl.nil | (apply hK; clear hK K) | (apply Wpl.mv; exact rfl; (conv => lhs; whnf)) | (apply Wpl.asg; exact rfl; (conv => lhs; whnf)) | (apply Wpl.guard_run; exact rfl; exact rfl) | (apply Wpl.pickF; exact rfl; exact rfl; (conv => lhs; whnf)) | (apply Wpl.unNot; exact rfl; exact rfl) | (apply Wpl.lss; exact rfl; exact rfl; exact rfl; all_goals (intro h; try (exfalso; omega))) | (apply Wpl.ptrEq; exact rfl; exact rfl; exact rfl; exact rfl))
  refine Wpl.shrV rfl rfl rfl (by show 0 ≤ c ∧ c ≤ 64; omega) hz ?_
  repeat' (first | (apply Wpc.seqK; intro K hK) | apply Wpc.region | apply Wpl.nil | (apply hK; clear hK K) | (apply Wpl.mv; exact rfl; (conv => lhs; whnf)) | (apply Wpl.guard_run; exact rfl; exact rfl) | (apply Wpl.pickF; exact rfl; exact rfl; (conv => lhs; whnf)) | (apply Wpc.cond_false; exact rfl) | apply Wpc.block | apply Wpc.skip | (apply Wpl.neq; exact rfl; exact rfl; exact rfl; all_goals (intro h; try (exfalso; omega))))
  refine Wpc.loop (ι := Nat × Frag × Frag) (fun i => i.1 ≤ c.toNat ∧ Wr hi (putB hi a c i.1 bs n) (n + i.1) (.pointer (some ⟨b, 0, none⟩)) i.2.1 i.2.2)
    (fun i => [(0, .pointer (some ⟨b, 0, none⟩)), (1, .int .i64 a), (2, .int .i64 c), (26, .int .i64 c), (27, .int .i64 i.1)]) (fun i => [i.2.1, i.2.2]) (fun i => c.toNat - i.1) (0, _, FB)
    ⟨by omega, h0⟩ ⟨rfl, rfl, rfl, rfl, rfl, trivial⟩ (Sel.refl _) ?_
  rintro ⟨k, FW', FB'⟩ g ⟨hk, h'⟩
  dsimp only at hk h' ⊢
  obtain ⟨b', vs', hv, rfl, hr'⟩ := h'.at_
  cases hv
  repeat' (first | (apply Wpc.seqK; intro K hK) | apply Wpc.region | apply Wpl.nil | (apply hK; clear hK K) | (apply Wpl.mv; exact rfl; (conv => lhs; whnf)) | (apply Wpl.asg; exact rfl; (conv => lhs; whnf)) | (apply Wpc.cond_true; exact rfl) | (apply Wpc.cond_false; exact rfl) | apply Wpc.block | apply Wpc.skip | apply Wpc.exit | apply Wpc.ret | (apply Wpl.nilCheck; exact rfl; exact rfl) | (apply Wpl.fldS; exact rfl; exact rfl; exact rfl; exact rfl) | (apply Wpl.ld0x0; exact rfl; exact rfl; exact rfl; exact rfl) | (apply Wpl.lss; exact rfl; exact rfl; exact rfl; all_goals (intro h; try (exfalso; omega))) | ((conv => whnf); clear hK K; apply hK; clear hK K))
  · have hpk := pickM_bd (hi := hi) (k := k) (cnt := c) (by omega)
    have hbo := bitOf_bd hi a c k
    have hdv : 0 ≤ a / 2 ^ (pickM hi k c).toNat := Int.ediv_nonneg ha.1 (Int.le_of_lt (Int.pow_pos (by decide)))
    have hdl : a / 2 ^ (pickM hi k c).toNat ≤ a := Int.ediv_le_self _ ha.1
    repeat' (apply Wpl.callP; exact rfl; exact rfl; exact rfl; exact rfl; (exact pick_spec hi k c (by omega)); (exact HasF.nil))
    refine Wpl.shr rfl rfl rfl (by show 0 ≤ pickM hi k c ∧ pickM hi k c ≤ 64; omega) ?_
    refine Wpl.andV (w := bitOf hi a c k) rfl rfl rfl (by omega) (by omega) rfl ?_
    refine Wpl.callM rfl rfl rfl (bit_spec h' (by omega) hbo) (Pk.cons 0 rfl (Pk.cons 0 rfl (Pk.nil _))) HasF.nil ?_
    rintro _ _ ⟨FW2, FB2, rfl, h2⟩
    repeat' (first | apply Wpc.region | apply Wpl.nil | (apply hK; clear hK K) | (apply Wpl.mv; exact rfl; (conv => lhs; whnf)) | (apply Wpl.add; exact rfl; exact rfl; exact rfl; omega))
    exact ⟨(k + 1, FW2, FB2), ⟨by omega, h2⟩, by show c.toNat - (k + 1) < c.toNat - k; omega, ⟨rfl, rfl, rfl, rfl, rfl, trivial⟩, Sel.refl _, fun _ h => h⟩
  · have : k = c.toNat := by omega
    subst this
    exact ⟨[_], _, ⟨rfl, trivial⟩, Sel.refl _, fun _ h => h, _, _, rfl, rfl, h'⟩

/-- nulls or ones up to the next byte -/
def alignB (hi : Bool) : Nat → List Int → Nat → List Int
  | 0, bs, _ => bs
  | k + 1, bs, n => bitM hi (alignB hi k bs n) (n + k) (fillM hi)
def alignK (n : Nat) : Nat := (8 - n % 8) % 8
theorem fillM_bd (hi : Bool) : 0 ≤ fillM hi ∧ fillM hi ≤ 1 := by unfold fillM; split <;> omega
theorem align_nil_spec : PSpec Try.prog 89 [.pointer none] [] (.tuple #[]) := by
  refine Ctr.intro Try.func89 (by kernel_rfl) rfl (by conv => lhs; whnf) rfl fun W => ?_
  refine Wpc.block ?_
  refine Wpc.loop (ι := Unit) (fun _ => True) (fun i => [(0, .pointer none)]) (fun i => []) (fun i => 0) () trivial ⟨rfl, trivial⟩ (Sel.refl _) ?_
  rintro _ g _
  dsimp only
  repeat' (first | (apply Wpc.seqK; intro K hK) | apply Wpc.region | apply Wpl.nil | (apply hK; clear hK K) | (apply Wpl.mv; exact rfl; (conv => lhs; whnf)) | (apply Wpl.guard_skip; exact rfl; exact rfl; exact rfl) | (apply Wpl.pickF; exact rfl; exact rfl; (conv => lhs; whnf)) | (apply Wpc.cond_false; exact rfl) | apply Wpc.exit | (apply Wpl.ptrNe; exact rfl; exact rfl; exact rfl; exact rfl))
  exact ⟨[], [], trivial, Sel.nil _, fun _ h => h, rfl, rfl⟩
theorem align_spec {hi : Bool} {bs : List Int} {n : Nat} {v : Value} {FW FB : Frag} (h0 : Wr hi bs n v FW FB) (hn : n ≤ 900000000000000) :
    Ctr Try.prog 89 [v] [] [FW, FB] (fun r M' => ∃ FW' FB', M' = [FW', FB'] ∧ Wr hi (alignB hi (alignK n) bs n) (n + alignK n) v FW' FB') := by
  obtain ⟨b, vs, rfl, rfl, hr⟩ := h0.at_
  refine Ctr.intro Try.func89 (by kernel_rfl) rfl (by conv => lhs; whnf) rfl fun W => ?_
  have hal : alignK n ≤ 7 ∧ (n + alignK n) % 8 = 0 := by unfold alignK; omega
  refine Wpc.block ?_
  refine Wpc.loop (ι := Nat × Frag × Frag) (fun i => i.1 ≤ alignK n ∧ Wr hi (alignB hi i.1 bs n) (n + i.1) (.pointer (some ⟨b, 0, none⟩)) i.2.1 i.2.2)
    (fun i => [(0, .pointer (some ⟨b, 0, none⟩))]) (fun i => [i.2.1, i.2.2]) (fun i => alignK n - i.1) (0, _, FB)
    ⟨by omega, h0⟩ ⟨rfl, trivial⟩ (Sel.refl _) ?_
  rintro ⟨k, FW', FB'⟩ g ⟨hk, h'⟩
  dsimp only at hk h' ⊢
  obtain ⟨b', vs', hv, rfl, hr'⟩ := h'.at_
  cases hv
  repeat' (first | (apply Wpc.seqK; intro K hK) | apply Wpc.region | apply Wpl.nil | (apply hK; clear hK K) | (apply Wpl.mv; exact rfl; (conv => lhs; whnf)) | (apply Wpl.guard_run; exact rfl; exact rfl) | (apply Wpl.pickT; exact rfl; exact rfl; (conv => lhs; whnf)) | (apply Wpc.cond_true; exact rfl) | (apply Wpc.cond_false; exact rfl) | apply Wpc.block | apply Wpc.skip | apply Wpc.exit | (apply Wpl.nilCheck; exact rfl; exact rfl) | (apply Wpl.fldS; exact rfl; exact rfl; exact rfl; exact rfl) | (apply Wpl.ld0x0; exact rfl; exact rfl; exact rfl; exact rfl) | (apply Wpl.neq; exact rfl; exact rfl; exact rfl; all_goals (intro h; try (exfalso; omega))) | (apply Wpl.rem; exact rfl; exact rfl; exact rfl; omega) | (apply Wpl.ptrNe; exact rfl; exact rfl; exact rfl; exact rfl))
  · have hlt : k < alignK n := by unfold alignK at *; omega
    repeat' (apply Wpl.callP; exact rfl; exact rfl; exact rfl; exact rfl; (exact fill_spec h'); (refine HasF.cons (by (exact HasF.m 0 rfl)) HasF.nil))
    refine Wpl.callM rfl rfl rfl (bit_spec h' (by omega) (fillM_bd hi)) (Pk.cons 0 rfl (Pk.cons 0 rfl (Pk.nil _))) HasF.nil ?_
    rintro _ _ ⟨FW2, FB2, rfl, h2⟩
    repeat' (apply Wpl.nil)
    exact ⟨(k + 1, FW2, FB2), ⟨by omega, h2⟩, by show alignK n - (k + 1) < alignK n - k; omega, ⟨rfl, trivial⟩, Sel.refl _, fun _ h => h⟩
  · have : k = alignK n := by unfold alignK at *; omega
    subst this
    exact ⟨[], _, trivial, Sel.refl _, fun _ h => h, _, _, rfl, h'⟩
end Go.Proofs.Ytmfcgffdijnokaa
set_option maxRecDepth 100000
set_option maxHeartbeats 4000000
namespace Go.Proofs.Ytmfcgffdijnokaa
open Go.SL Go.RowKit
attribute [local irreducible] Wpl Wpc Wph
/-! Good, clones -/
def goodTok (t : Int × Int) : Bool := if t.1 = 0 then decide (0 ≤ t.2 ∧ t.2 < 256) else decide ((3 ≤ t.1 ∧ t.1 ≤ 258) ∧ 1 ≤ t.2 ∧ t.2 ≤ 32768)
theorem good_spec (t : Int × Int) : PSpec Try.prog 19 [.agg (tokC t).toArray] [] (.bool (goodTok t)) := by
  refine Ctr.intro Try.func19 (by kernel_rfl) rfl (by conv => lhs; whnf) rfl fun W => ?_
  repeat' (first | (apply Wpc.seqK; intro K hK) | apply Wpc.region | apply Wpl.nil | (apply hK; clear hK K) | (apply Wpl.mv; exact rfl; (conv => lhs; whnf)) | (apply Wpl.asg; exact rfl; (conv => lhs; whnf)) | (apply Wpl.guard_run; exact rfl; exact rfl) | (apply Wpl.guard_skip; exact rfl; exact rfl; exact rfl) | (apply Wpl.pickT; exact rfl; exact rfl; (conv => lhs; whnf)) | (apply Wpl.pickF; exact rfl; exact rfl; (conv => lhs; whnf)) | (apply Wpc.cond_true; exact rfl) | (apply Wpc.cond_false; exact rfl) | apply Wpc.skip | apply Wpc.ret | (apply Wpl.fldS; exact rfl; exact rfl; exact rfl; exact rfl) | (apply Wpl.ld0x0; exact rfl; exact rfl; exact rfl; exact rfl) | (apply Wpl.lss; exact rfl; exact rfl; exact rfl; all_goals (intro h; try (exfalso; omega))) | (apply Wpl.leq; exact rfl; exact rfl; exact rfl; all_goals (intro h; try (exfalso; omega))) | (apply Wpl.geq; exact rfl; exact rfl; exact rfl; all_goals (intro h; try (exfalso; omega))) | (apply Wpl.eql; exact rfl; exact rfl; exact rfl; all_goals (intro h; try (exfalso; omega))) | (apply Wpl.boxA; exact rfl; exact rfl; intro _))
  all_goals refine ⟨[_], [], ⟨rfl, trivial⟩, Sel.nil _, fun _ h => h, ?_, rfl⟩
  all_goals unfold goodTok
  · rw [if_pos (by omega), decide_eq_true (by omega)]; rfl
  · rw [if_pos (by omega), decide_eq_false (by omega)]; rfl
  · rw [if_pos (by omega), decide_eq_false (by omega)]; rfl
  · rw [if_neg (by omega), decide_eq_true (by omega)]; rfl
  all_goals rw [if_neg (by omega), decide_eq_false (by omega)]; rfl
theorem none_n {F : Frag} {k n c m : Nat} {xs : List Value} (h : Row F k (.slice none m c) n xs) : n = 0 ∧ m = 0 ∧ xs = [] := by
  obtain ⟨hl, a, cap, he, h1, h2, h3⟩ := h
  cases he
  rcases Nat.eq_zero_or_pos n with rfl | hp
  · exact ⟨rfl, rfl, List.eq_nil_of_length_eq_zero (by simpa using hl)⟩
  · obtain ⟨b, off, c, E, fz, hb, _⟩ := h3 hp
    cases hb
theorem clone_bytes_spec (F : Frag) (v : Value) (bs : List Int) (n : Nat) (h : Row F 1 v n (ints .u8 bs)) (hn : n ≤ 1000000000000) :
    Ctr Try.prog 44 [v] [F] [] (fun r M' => ∃ F', M' = [F'] ∧ OwnRow 5 1 F' r n (ints .u8 bs)) := by
  obtain ⟨a, cap, rfl⟩ := h.len
  cases a with
  | none =>
    obtain ⟨rfl, _, hx⟩ := none_n h
    refine Ctr.intro Try.func44 (by kernel_rfl) rfl (by conv => lhs; whnf) rfl fun W => ?_
    refine Wpc.addNil ?_
    repeat' (first | (apply Wpc.seqK; intro K hK) | apply Wpc.region | apply Wpl.nil | (apply hK; clear hK K) | (apply Wpl.mv; exact rfl; (conv => lhs; whnf)) | (apply Wpl.asg; exact rfl; (conv => lhs; whnf)) | (apply Wpc.cond_true; exact rfl) | apply Wpc.ret | (apply Wpl.sliceEq; exact rfl; exact rfl; exact rfl; exact rfl))
    exact ⟨[_], _, ⟨rfl, trivial⟩, Sel.refl _, fun _ h => h, _, rfl, by rw [hx]; exact OwnRow.nil _ _⟩
  | some a =>
    refine Ctr.intro Try.func44 (by kernel_rfl) rfl (by conv => lhs; whnf) rfl fun W => ?_
    repeat' (first | (apply Wpc.seqK; intro K hK) | apply Wpc.region | apply Wpl.nil | (apply hK; clear hK K) | (apply Wpl.mv; exact rfl; (conv => lhs; whnf)) | (apply Wpl.asg; exact rfl; (conv => lhs; whnf)) | (apply Wpc.cond_false; exact rfl) | apply Wpc.skip | (apply Wpl.sliceEq; exact rfl; exact rfl; exact rfl; exact rfl))
    refine Wpl.lit0 rfl (fun v0 F0 h0 => ?_)
    repeat' (apply Wpl.mv; exact rfl; (conv => lhs; whnf))
    refine Wpl.append 0 rfl h0 rfl rfl rfl h (by (exact HasF.r 0 rfl)) (by decide) (ints_one _ _) (by omega) (by unfold maxLen; omega) (fun v' F' h' => ?_)
    repeat' (first | apply Wpl.nil | (apply hK; clear hK K) | (apply Wpl.asg; exact rfl; (conv => lhs; whnf)) | apply Wpc.ret)
    exact ⟨[_], _, ⟨rfl, trivial⟩, Sel.refl _, fun _ h => h, _, rfl, h'.cast (by omega) rfl⟩
theorem clone_ints_spec (F : Frag) (v : Value) (bs : List Int) (n : Nat) (h : Row F 1 v n (ints .i64 bs)) (hn : n ≤ 1000000000000) :
    Ctr Try.prog 174 [v] [F] [] (fun r M' => ∃ F', M' = [F'] ∧ OwnRow 3 1 F' r n (ints .i64 bs)) := by
  obtain ⟨a, cap, rfl⟩ := h.len
  cases a with
  | none =>
    obtain ⟨rfl, _, hx⟩ := none_n h
    refine Ctr.intro Try.func174 (by kernel_rfl) rfl (by conv => lhs; whnf) rfl fun W => ?_
    refine Wpc.addNil ?_
    repeat' (first | (apply Wpc.seqK; intro K hK) | apply Wpc.region | apply Wpl.nil | (apply hK; clear hK K) | (apply Wpl.mv; exact rfl; (conv => lhs; whnf)) | (apply Wpl.asg; exact rfl; (conv => lhs; whnf)) | (apply Wpc.cond_true; exact rfl) | apply Wpc.ret | (apply Wpl.sliceEq; exact rfl; exact rfl; exact rfl; exact rfl))
    exact ⟨[_], _, ⟨rfl, trivial⟩, Sel.refl _, fun _ h => h, _, rfl, by rw [hx]; exact OwnRow.nil _ _⟩
  | some a =>
    refine Ctr.intro Try.func174 (by kernel_rfl) rfl (by conv => lhs; whnf) rfl fun W => ?_
    repeat' (first | (apply Wpc.seqK; intro K hK) | apply Wpc.region | apply Wpl.nil | (apply hK; clear hK K) | (apply Wpl.mv; exact rfl; (conv => lhs; whnf)) | (apply Wpl.asg; exact rfl; (conv => lhs; whnf)) | (apply Wpc.cond_false; exact rfl) | apply Wpc.skip | (apply Wpl.sliceEq; exact rfl; exact rfl; exact rfl; exact rfl))
    refine Wpl.lit0 rfl (fun v0 F0 h0 => ?_)
    repeat' (apply Wpl.mv; exact rfl; (conv => lhs; whnf))
    refine Wpl.append 0 rfl h0 rfl rfl rfl h (by (exact HasF.r 0 rfl)) (by decide) (ints_one _ _) (by omega) (by unfold maxLen; omega) (fun v' F' h' => ?_)
    repeat' (first | apply Wpl.nil | (apply hK; clear hK K) | (apply Wpl.asg; exact rfl; (conv => lhs; whnf)) | apply Wpc.ret)
    exact ⟨[_], _, ⟨rfl, trivial⟩, Sel.refl _, fun _ h => h, _, rfl, h'.cast (by omega) rfl⟩
theorem flat_one (ts : List (Int × Int)) : ∀ u ∈ flat tokC ts, u.oneCell' = true := by
  intro u hu
  obtain ⟨t, _, ht⟩ := List.mem_flatMap.1 hu
  simp [tokC] at ht
  rcases ht with rfl | rfl <;> rfl
theorem clone_toks_spec (F : Frag) (v : Value) (ts : List (Int × Int)) (n : Nat) (h : Row F 2 v n (flat tokC ts)) (hn : n ≤ 1000000000000) :
    Ctr Try.prog 43 [v] [F] [] (fun r M' => ∃ F', M' = [F'] ∧ OwnRow 54 2 F' r n (flat tokC ts)) := by
  obtain ⟨a, cap, rfl⟩ := h.len
  cases a with
  | none =>
    obtain ⟨rfl, _, hx⟩ := none_n h
    refine Ctr.intro Try.func43 (by kernel_rfl) rfl (by conv => lhs; whnf) rfl fun W => ?_
    refine Wpc.addNil ?_
    repeat' (first | (apply Wpc.seqK; intro K hK) | apply Wpc.region | apply Wpl.nil | (apply hK; clear hK K) | (apply Wpl.mv; exact rfl; (conv => lhs; whnf)) | (apply Wpl.asg; exact rfl; (conv => lhs; whnf)) | (apply Wpc.cond_true; exact rfl) | apply Wpc.ret | (apply Wpl.sliceEq; exact rfl; exact rfl; exact rfl; exact rfl))
    exact ⟨[_], _, ⟨rfl, trivial⟩, Sel.refl _, fun _ h => h, _, rfl, by rw [hx]; exact OwnRow.nil _ _⟩
  | some a =>
    refine Ctr.intro Try.func43 (by kernel_rfl) rfl (by conv => lhs; whnf) rfl fun W => ?_
    repeat' (first | (apply Wpc.seqK; intro K hK) | apply Wpc.region | apply Wpl.nil | (apply hK; clear hK K) | (apply Wpl.mv; exact rfl; (conv => lhs; whnf)) | (apply Wpl.asg; exact rfl; (conv => lhs; whnf)) | (apply Wpc.cond_false; exact rfl) | apply Wpc.skip | (apply Wpl.sliceEq; exact rfl; exact rfl; exact rfl; exact rfl))
    refine Wpl.lit0 rfl (fun v0 F0 h0 => ?_)
    repeat' (apply Wpl.mv; exact rfl; (conv => lhs; whnf))
    refine Wpl.append 0 rfl h0 rfl rfl rfl h (by (exact HasF.r 0 rfl)) (by decide) (flat_one _) (by omega) (by unfold maxLen; omega) (fun v' F' h' => ?_)
    repeat' (first | apply Wpl.nil | (apply hK; clear hK K) | (apply Wpl.asg; exact rfl; (conv => lhs; whnf)) | apply Wpc.ret)
    exact ⟨[_], _, ⟨rfl, trivial⟩, Sel.refl _, fun _ h => h, _, rfl, h'.cast (by omega) rfl⟩
end Go.Proofs.Ytmfcgffdijnokaa
