/- the engine: contracts of functions over fragments of memory, and the rules that walk a region of the program in form of a list of operations -/
import Derived.WalkKit
import Derived.Deep.Quiet
import Derived.StillTail
set_option linter.unusedVariables false
set_option linter.unusedSimpArgs false
set_option linter.unusedSectionVars false
namespace Go.SL

/-! Environments -/
abbrev Env := Nat → Value
def Env.upd (f : Env) (d : Nat) (v : Value) : Env := fun t => bif Nat.beq t d then v else f t
def Env.mk : List (Nat × Value) → Env → Env
  | [], g => g
  | (d, v) :: l, g => (Env.mk l g).upd d v
def Env.ev (f : Env) : Operand → Value
  | .tmp t => f t
  | .const v => v
  | .global g => .pointer (some ⟨g, 0, none⟩)
  | .func g => .func (.func g) #[] #[]
def Env.put (f : Env) (d : Option Tmp) (v : Value) : Env :=
  match d with
  | some d => f.upd d v
  | none => f
def dstOk (n : Nat) : Option Tmp → Bool
  | some d => Nat.blt d n
  | none => true

structure Fr (n : Nat) (f : Env) (a : Act) : Prop where
  size : a.tmps.size = n
  get : ∀ t, a.tmps.getD t undef = f t
  defers : a.defers = []

theorem Fr.eval {n : Nat} {f : Env} {a : Act} (h : Fr n f a) : a.eval = f.ev := by
  funext x
  cases x with
  | tmp t => exact h.get t
  | _ => rfl

theorem Fr.put {n : Nat} {f : Env} {a : Act} (h : Fr n f a) {d : Option Tmp} (hd : dstOk n d = true) (v : Value) : Fr n (f.put d v) (a.put d v) := by
  cases d with
  | none => exact h
  | some d =>
    have hd' : d < n := Nat.blt_eq.mp hd
    refine ⟨by simp [Act.put, h.size], fun t => ?_, h.defers⟩
    simp only [Act.put, Env.put, Env.upd]
    by_cases e : t = d
    · subst e
      simp [Array.getElem?_setIfInBounds, h.size, hd']
    · have hb : Nat.beq t d = false := by
        cases hh : Nat.beq t d with
        | false => rfl
        | true => exact absurd (Nat.eq_of_beq_eq_true hh) e
      rw [hb]
      have := h.get t
      simp only [Array.getD_eq_getD_getElem?] at this ⊢
      rw [Array.getElem?_setIfInBounds_ne (Ne.symm e)]
      exact this

theorem Fr.yields {n : Nat} {f : Env} {a : Act} (h : Fr n f a) {ops : Array Oper} {j d : Nat} {b : Bool} (hj : (ops[j]?).bind (·.dst) = some d) (hf : f d = .bool b) :
    yielded ops a.tmps j = some b := by
  have hg := h.get d
  rw [hf] at hg
  unfold yielded
  rw [hj]
  simp only [Option.bind_some]
  rw [Array.getD_eq_getD_getElem?] at hg
  cases hh : a.tmps[d]? with
  | none => rw [hh] at hg; simp [undef] at hg
  | some v => rw [hh] at hg; simp only [Option.getD_some] at hg; subst hg; rfl

theorem Env.upd_self (f : Env) (d : Nat) (v : Value) (h : f d = v) : f.upd d v = f := by
  funext t
  simp only [Env.upd]
  cases hb : Nat.beq t d with
  | false => rfl
  | true => rw [Nat.eq_of_beq_eq_true hb]; exact h.symm

/-- f holds these values in these slots -/
def Agree (f : Env) : List (Nat × Value) → Prop
  | [] => True
  | (d, v) :: l => f d = v ∧ Agree f l

theorem Agree.mk {f : Env} : ∀ {l : List (Nat × Value)}, Agree f l → Env.mk l f = f
  | [], _ => rfl
  | (d, v) :: l, h => by
    rw [Env.mk, Agree.mk h.2]
    exact Env.upd_self f d v h.1

/-! Fragments of the heap -/
abbrev Frag := List (Nat × Obj)
def Frag.In (F : Frag) (w : World) : Prop := ∀ p ∈ F, w.heap[p.1]? = some p.2
def keys (M : List Frag) : List Nat := M.flatten.map (·.1)

structure Cx where
  P : Program
  n : Nat
  W : World
  D : List Nat

structure Sat (C : Cx) (R M : List Frag) (w : World) : Prop where
  os : w.os = C.W.os
  tape : w.tape = C.W.tape
  output : w.output = C.W.output
  size : C.W.heap.size ≤ w.heap.size
  keep : ∀ k, k < C.W.heap.size → k ∉ C.D → w.heap[k]? = C.W.heap[k]?
  ro : ∀ F ∈ R, F.In w
  mu : ∀ F ∈ M, F.In w
  nodup : (keys M).Nodup
  apart : ∀ F ∈ R, ∀ p ∈ F, p.1 ∉ keys M
  dirty : ∀ k ∈ keys M, k ∈ C.D ∨ C.W.heap.size ≤ k

theorem mem_keys {M : List Frag} {F : Frag} {p : Nat × Obj} (hF : F ∈ M) (hp : p ∈ F) : p.1 ∈ keys M :=
  List.mem_map.2 ⟨p, List.mem_flatten.2 ⟨F, hF, hp⟩, rfl⟩

theorem In_lt {F : Frag} {w : World} (h : F.In w) {p : Nat × Obj} (hp : p ∈ F) : p.1 < w.heap.size := by
  have := h p hp
  exact (Array.getElem?_eq_some_iff.1 this).1

/-- same heap -/
theorem Sat.of_heap {C : Cx} {R M : List Frag} {w w' : World} (h : Sat C R M w) (h1 : w'.heap = w.heap) (h2 : w'.os = w.os) (h3 : w'.tape = w.tape) (h4 : w'.output = w.output) : Sat C R M w' :=
  ⟨h2.trans h.os, h3.trans h.tape, h4.trans h.output, by rw [h1]; exact h.size, by rw [h1]; exact h.keep,
    fun F hF p hp => by rw [h1]; exact h.ro F hF p hp, fun F hF p hp => by rw [h1]; exact h.mu F hF p hp, h.nodup, h.apart, h.dirty⟩

def liftQ (C : Cx) (Q : Exit → Env → List Frag → List Frag → Prop) : Exit → Act → World → Prop :=
  fun e a w => ∃ f R M, Fr C.n f a ∧ Sat C R M w ∧ Q e f R M

/-- how a list of operations is walked: one behind the other; in any order, each with one value in every world (calls too); the same, without calls -/
inductive Md where
  | seq | quiet | yld
def Md.calls : Md → Bool
  | .yld => false
  | _ => true
/-- each operation has one value in every world of the class, and leaves that world as it is -/
def wpYield (P : Program) (ops : Array Oper) (S : World → Prop) (K : Act → Prop) : List Oper → Act → Prop
  | [], a => K a
  | o :: rest, a => if Region.wanted o (yielded ops a.tmps) then ∃ v, (∀ w, S w → (execOp a.eval o).run P w = .ok (.value v) w) ∧ wpYield P ops S K rest (a.put o.dst v) else wpYield P ops S K rest (a.put o.dst undef)

def Wpl (q : Md) (C : Cx) (ops : Array Oper) (rest : List Oper) (Q : Exit → Env → List Frag → List Frag → Prop) (f : Env) (R M : List Frag) : Prop :=
  match q with
  | .seq => ∀ a w, Fr C.n f a → Sat C R M w → wpList C.P ops (liftQ C Q) rest a w
  | .quiet => ∀ a, Fr C.n f a → wpQuiet C.P ops (Sat C R M) (fun a' => ∃ f', Fr C.n f' a' ∧ Q .normal f' R M) rest a
  | .yld => ∀ a, Fr C.n f a → wpYield C.P ops (Sat C R M) (fun a' => ∃ f', Fr C.n f' a' ∧ Q .normal f' R M) rest a

def Wpc (C : Cx) (c : Code) (Q : Exit → Env → List Frag → List Frag → Prop) (f : Env) (R M : List Frag) : Prop :=
  ∀ a w, Fr C.n f a → Sat C R M w → c.wp C.P (liftQ C Q) a w

section rules
variable {q : Md} {C : Cx} {ops : Array Oper} {rest : List Oper} {Q : Exit → Env → List Frag → List Frag → Prop} {f : Env} {R M : List Frag}

/-! code -/
theorem Wpc.skip (h : Q .normal f R M) : Wpc C .skip Q f R M := fun a w ha hw => wp_skip ⟨f, R, M, ha, hw, h⟩
theorem Wpc.exit {id : Nat} (h : Q (.exit id) f R M) : Wpc C (.exit id) Q f R M := fun a w ha hw => wp_exit ⟨f, R, M, ha, hw, h⟩
theorem Wpc.ret (h : Q .ret f R M) : Wpc C .ret Q f R M := fun a w ha hw => wp_ret ⟨f, R, M, ha, hw, h⟩

@[reducible] def thenQ (next : Env → List Frag → List Frag → Prop) (Q : Exit → Env → List Frag → List Frag → Prop) : Exit → Env → List Frag → List Frag → Prop
  | .normal, f, R, M => next f R M
  | e, f, R, M => Q e f R M

theorem Wpc.mono {c : Code} {Q' : Exit → Env → List Frag → List Frag → Prop} (h : Wpc C c Q f R M) (hq : ∀ e f R M, Q e f R M → Q' e f R M) : Wpc C c Q' f R M :=
  fun a w ha hw => Code.wp_mono (fun e a w ⟨f, R, M, h1, h2, h3⟩ => ⟨f, R, M, h1, h2, hq _ _ _ _ h3⟩) (h a w ha hw)

theorem Wpc.seq {x y : Code} (h : Wpc C x (thenQ (Wpc C y Q) Q) f R M) : Wpc C (.seq x y) Q f R M := fun a w ha hw => by
  refine wp_seq (Code.wp_mono ?_ (h a w ha hw))
  rintro e a w ⟨f, R, M, h1, h2, h3⟩
  cases e with
  | normal => exact h3 a w h1 h2
  | _ => exact ⟨f, R, M, h1, h2, h3⟩

/-- what stands behind, under a name of its own -/
theorem Wpc.seqK {x y : Code} (h : ∀ K : Env → List Frag → List Frag → Prop, (∀ f R M, Wpc C y Q f R M → K f R M) → Wpc C x (thenQ K Q) f R M) : Wpc C (.seq x y) Q f R M :=
  Wpc.seq (h _ fun _ _ _ h => h)
/-- a sequence cut at its joint -/
theorem Wpc.seq_cut {x y : Code} (J : Env → List Frag → List Frag → Prop) (h : Wpc C x (thenQ J Q) f R M) (k : ∀ f R M, J f R M → Wpc C y Q f R M) : Wpc C (.seq x y) Q f R M :=
  Wpc.seq (h.mono fun e f R M hq => by cases e <;> first | exact k _ _ _ hq | exact hq)

theorem Wpc.cond {c : Operand} {x y : Code} {t : Bool} (hc : f.ev c = .bool t) (h : Wpc C (bif t then x else y) Q f R M) : Wpc C (.cond c x y) Q f R M := fun a w ha hw => by
  refine wp_cond (t := t) (by rw [ha.eval]; exact hc) ?_
  have := h a w ha hw
  cases t <;> exact this
theorem Wpc.cond_true {c : Operand} {x y : Code} (hc : f.ev c = .bool true) (h : Wpc C x Q f R M) : Wpc C (.cond c x y) Q f R M := Wpc.cond hc h
theorem Wpc.cond_false {c : Operand} {x y : Code} (hc : f.ev c = .bool false) (h : Wpc C y Q f R M) : Wpc C (.cond c x y) Q f R M := Wpc.cond hc h

@[reducible] def blockQ (id : Nat) (Q : Exit → Env → List Frag → List Frag → Prop) : Exit → Env → List Frag → List Frag → Prop
  | .exit id', f, R, M => bif Nat.beq id' id then Q .normal f R M else Q (.exit id') f R M
  | e, f, R, M => Q e f R M

theorem Wpc.block {id : Nat} {c : Code} (h : Wpc C c (blockQ id Q) f R M) : Wpc C (.block id c) Q f R M := fun a w ha hw => by
  refine wp_block (Code.wp_mono ?_ (h a w ha hw))
  rintro e a w ⟨f, R, M, h1, h2, h3⟩
  cases e with
  | exit id' =>
    simp only [Exit.inBlock]
    simp only [blockQ] at h3
    by_cases e : id' = id
    · subst e
      rw [if_pos rfl]
      have : Nat.beq id' id' = true := Nat.beq_eq ▸ rfl
      rw [this] at h3
      exact ⟨f, R, M, h1, h2, h3⟩
    · rw [if_neg e]
      have : Nat.beq id' id = false := by
        cases hh : Nat.beq id' id with
        | false => rfl
        | true => exact absurd (Nat.eq_of_beq_eq_true hh) e
      rw [this] at h3
      exact ⟨f, R, M, h1, h2, h3⟩
  | _ => exact ⟨f, R, M, h1, h2, h3⟩

theorem Wpc.region {id : Nat} {l : List Oper} (h : Wpl .seq C l.toArray l Q f R M) : Wpc C (.region id l.toArray false) Q f R M :=
  fun a w ha hw => wp_region_lit (h a w ha hw)


theorem wpQuiet_mono {P : Program} {ops : Array Oper} {Cl : World → Prop} {K K' : Act → Prop} (h : ∀ a, K a → K' a) : ∀ (l : List Oper) (a : Act), wpQuiet P ops Cl K l a → wpQuiet P ops Cl K' l a
  | [], a, hh => h a hh
  | o :: l, a, hh => by
    unfold wpQuiet at hh ⊢
    split
    · rename_i hw
      rw [if_pos hw] at hh
      exact Oper.quiet_mono (fun a' => wpQuiet_mono h l a') hh
    · rename_i hw
      rw [if_neg hw] at hh
      exact wpQuiet_mono h l _ hh

theorem Wpc.region_draw {id : Nat} {l : List Oper} (hm : C.P.follows .mixedOrders = true) (hB : Region.lexB .any l.toArray = true) (h : Wpl .quiet C l.toArray l Q f R M) :
    Wpc C (.region id l.toArray true) Q f R M := fun a w ha hw => by
  refine wp_region_quiet (C := Sat C R M) hm hB (hw.of_heap rfl rfl rfl rfl) ?_
  exact wpQuiet_mono (fun a' ⟨f', h1, h2⟩ w' hw' => ⟨f', R, M, h1, hw', h2⟩) _ _ (h a ha)

/-! lists of operations -/
theorem Wpl.nil (h : Q .normal f R M) : Wpl q C ops [] Q f R M := by
  cases q with
  | seq => exact fun a w ha hw => ⟨f, R, M, ha, hw, h⟩
  | quiet => exact fun a ha => ⟨f, ha, h⟩
  | yld => exact fun a ha => ⟨f, ha, h⟩

theorem Wpl.val {o : Oper} (hg : o.guard = none) (hd : dstOk C.n o.dst = true) (v : Value)
    (h : ∀ w, Sat C R M w → (execOp f.ev o).run C.P w = .ok (.value v) w)
    (k : Wpl q C ops rest Q (f.put o.dst v) R M) : Wpl q C ops (o :: rest) Q f R M := by
  cases q with
  | seq =>
    intro a w ha hw
    show wpList _ _ _ (o :: rest) a w
    unfold wpList
    rw [if_pos (by simp [Region.wanted, hg])]
    left
    unfold Oper.wp
    rw [ha.eval, h w hw]
    exact k _ _ (ha.put hd v) hw
  | quiet =>
    intro a ha
    unfold wpQuiet
    rw [if_pos (by simp [Region.wanted, hg])]
    refine ⟨v, fun w hw => ?_, k _ (ha.put hd v)⟩
    unfold Oper.quietAt
    rw [ha.eval, h w hw]
    exact ⟨rfl, rfl⟩
  | yld =>
    intro a ha
    unfold wpYield
    rw [if_pos (by simp [Region.wanted, hg])]
    exact ⟨v, fun w hw => by rw [ha.eval]; exact h w hw, k _ (ha.put hd v)⟩

theorem Wpl.chg {o : Oper} (hg : o.guard = none) (hd : dstOk C.n o.dst = true)
    (h : ∀ w, Sat C R M w → ∃ v w' R' M', (execOp f.ev o).run C.P w = .ok (.value v) w' ∧ Sat C R' M' w' ∧ Wpl .seq C ops rest Q (f.put o.dst v) R' M') : Wpl .seq C ops (o :: rest) Q f R M := by
  intro a w ha hw
  show wpList _ _ _ (o :: rest) a w
  unfold wpList
  rw [if_pos (by simp [Region.wanted, hg])]
  left
  obtain ⟨v, w', R', M', h1, h2, h3⟩ := h w hw
  unfold Oper.wp
  rw [ha.eval, h1]
  exact h3 _ _ (ha.put hd v) h2

theorem Wpl.chgSkip {o : Oper} (hg : o.guard = none) (hd : o.dst = none)
    (h : ∀ w, Sat C R M w → ∃ w' R' M', (execOp f.ev o).run C.P w = .ok .skip w' ∧ Sat C R' M' w' ∧ Wpl .seq C ops rest Q f R' M') : Wpl .seq C ops (o :: rest) Q f R M := by
  intro a w ha hw
  show wpList _ _ _ (o :: rest) a w
  unfold wpList
  rw [if_pos (by simp [Region.wanted, hg])]
  left
  obtain ⟨w', R', M', h1, h2, h3⟩ := h w hw
  unfold Oper.wp
  rw [ha.eval, h1]
  show wpList _ _ _ rest (a.put o.dst undef) w'
  rw [hd]
  exact h3 _ _ ha h2

theorem Wpl.enter {o : Oper} (hg : o.guard = none) (hd : dstOk C.n o.dst = true) {g : FuncId} {args : Array Value}
    (h : ∀ w, Sat C R M w → (execOp f.ev o).run C.P w = .ok (.enter g args) w ∧
      Calls C.P g args w (fun e w' => ∃ v R' M', e = .returned v ∧ Sat C R' M' w' ∧ Wpl .seq C ops rest Q (f.put o.dst v) R' M')) : Wpl .seq C ops (o :: rest) Q f R M := by
  intro a w ha hw
  show wpList _ _ _ (o :: rest) a w
  unfold wpList
  rw [if_pos (by simp [Region.wanted, hg])]
  left
  obtain ⟨h1, h2⟩ := h w hw
  unfold Oper.wp
  rw [ha.eval, h1]
  refine h2.mono ?_
  rintro e w' ⟨v, R', M', rfl, h3, h4⟩
  exact h4 _ _ (ha.put hd v) h3

/-- a quiet call: one value, whatever the order -/
theorem Wpl.enterQ {o : Oper} (hq : q.calls = true) (hg : o.guard = none) (hd : dstOk C.n o.dst = true) {g : FuncId} {args : Array Value} (v : Value)
    (h : ∀ w, Sat C R M w → (execOp f.ev o).run C.P w = .ok (.enter g args) w ∧ Calls C.P g args w (fun e w' => e = .returned v ∧ Sat C R M w'))
    (k : Wpl q C ops rest Q (f.put o.dst v) R M) : Wpl q C ops (o :: rest) Q f R M := by
  cases q with
  | seq =>
    refine Wpl.enter hg hd fun w hw => ⟨(h w hw).1, (h w hw).2.mono ?_⟩
    rintro e w' ⟨rfl, h2⟩
    exact ⟨v, R, M, rfl, h2, k⟩
  | quiet =>
    intro a ha
    unfold wpQuiet
    rw [if_pos (by simp [Region.wanted, hg])]
    refine ⟨v, fun w hw => ?_, k _ (ha.put hd v)⟩
    unfold Oper.quietAt
    rw [ha.eval, (h w hw).1]
    exact ⟨rfl, (h w hw).2⟩
  | yld => cases hq

/-! guards -/
theorem Wpl.guard_run {dst : Option Tmp} {op : Op} {ty : TypeId} {pos : String} {af : Array Edge} {j d : Nat} {b : Bool} (hj : (ops[j]?).bind (·.dst) = some d) (hf : f d = .bool b)
    (k : Wpl q C ops (⟨dst, op, ty, pos, af, none⟩ :: rest) Q f R M) : Wpl q C ops (⟨dst, op, ty, pos, af, some (j, b)⟩ :: rest) Q f R M := by
  have hw : ∀ a, Fr C.n f a → Region.wanted ⟨dst, op, ty, pos, af, some (j, b)⟩ (yielded ops a.tmps) = true := fun a ha => by
    simp [Region.wanted, ha.yields hj hf]
  cases q with
  | seq =>
    intro a w ha hw'
    have := k a w ha hw'
    unfold wpList at this ⊢
    rw [if_pos (hw a ha)]
    rw [if_pos (by simp [Region.wanted])] at this
    exact this
  | quiet =>
    intro a ha
    have := k a ha
    unfold wpQuiet at this ⊢
    rw [if_pos (hw a ha)]
    rw [if_pos (by simp [Region.wanted])] at this
    exact this
  | yld =>
    intro a ha
    have := k a ha
    unfold wpYield at this ⊢
    rw [if_pos (hw a ha)]
    rw [if_pos (by simp [Region.wanted])] at this
    exact this

theorem Wpl.skip_of {o : Oper} (hd : dstOk C.n o.dst = true) (hw : ∀ a, Fr C.n f a → Region.wanted o (yielded ops a.tmps) = false)
    (k : Wpl q C ops rest Q (f.put o.dst undef) R M) : Wpl q C ops (o :: rest) Q f R M := by
  cases q with
  | seq =>
    intro a w ha hw'
    show wpList _ _ _ (o :: rest) a w
    unfold wpList
    rw [if_neg (by rw [hw a ha]; simp)]
    exact k _ _ (ha.put hd undef) hw'
  | quiet =>
    intro a ha
    show wpQuiet _ _ _ _ (o :: rest) a
    unfold wpQuiet
    rw [if_neg (by rw [hw a ha]; simp)]
    exact k _ (ha.put hd undef)
  | yld =>
    intro a ha
    show wpYield _ _ _ _ (o :: rest) a
    unfold wpYield
    rw [if_neg (by rw [hw a ha]; simp)]
    exact k _ (ha.put hd undef)

theorem Wpl.guard_skip {dst : Option Tmp} {op : Op} {ty : TypeId} {pos : String} {af : Array Edge} {j d : Nat} {b : Bool} (hd : dstOk C.n dst = true) (hj : (ops[j]?).bind (·.dst) = some d) (hf : f d = .bool (!b))
    (k : Wpl q C ops rest Q (f.put dst undef) R M) : Wpl q C ops (⟨dst, op, ty, pos, af, some (j, b)⟩ :: rest) Q f R M :=
  Wpl.skip_of hd (fun a ha => by simp only [Region.wanted, ha.yields hj hf]; cases b <;> rfl) k

theorem Fr.yields_undef {n : Nat} {f : Env} {a : Act} (h : Fr n f a) {ops : Array Oper} {j d : Nat} (hj : (ops[j]?).bind (·.dst) = some d) (hf : f d = undef) :
    yielded ops a.tmps j = none := by
  have hg := h.get d
  rw [hf] at hg
  unfold yielded
  rw [hj]
  simp only [Option.bind_some]
  rw [Array.getD_eq_getD_getElem?] at hg
  cases hh : a.tmps[d]? with
  | none => rfl
  | some v =>
    rw [hh] at hg
    simp only [Option.getD_some] at hg
    subst hg
    rfl

theorem Wpl.guard_undef {dst : Option Tmp} {op : Op} {ty : TypeId} {pos : String} {af : Array Edge} {j d : Nat} {b : Bool} (hd : dstOk C.n dst = true) (hj : (ops[j]?).bind (·.dst) = some d) (hf : f d = undef)
    (k : Wpl q C ops rest Q (f.put dst undef) R M) : Wpl q C ops (⟨dst, op, ty, pos, af, some (j, b)⟩ :: rest) Q f R M :=
  Wpl.skip_of hd (fun a ha => by simp only [Region.wanted, ha.yields_undef hj hf]; cases b <;> rfl) k

end rules
end Go.SL
namespace Go.SL
open Go.RowKit

section rules
variable {q : Md} {C : Cx} {ops : Array Oper} {rest : List Oper} {Q : Exit → Env → List Frag → List Frag → Prop} {f : Env} {R M : List Frag}
variable {d : Nat} {ty : TypeId} {pos : String} {af : Array Edge}

/-! moves -/
theorem Wpl.move {x : Operand} (hd : Nat.blt d C.n = true) (k : Wpl q C ops rest Q (f.upd d (f.ev x)) R M) :
    Wpl q C ops (⟨some d, .move x, ty, pos, af, none⟩ :: rest) Q f R M :=
  Wpl.val rfl hd (f.ev x) (fun w _ => rfl) k
theorem Wpl.assign {x : Operand} (hd : Nat.blt d C.n = true) (k : Wpl q C ops rest Q (f.upd d (f.ev x)) R M) :
    Wpl q C ops (⟨some d, .assign x, ty, pos, af, none⟩ :: rest) Q f R M :=
  Wpl.val rfl hd (f.ev x) (fun w _ => rfl) k
theorem Wpl.mv {x : Operand} {v : Value} (hd : Nat.blt d C.n = true) (hx : f.ev x = v) (k : Wpl q C ops rest Q (f.upd d v) R M) :
    Wpl q C ops (⟨some d, .move x, ty, pos, af, none⟩ :: rest) Q f R M := Wpl.move hd (by rw [hx]; exact k)
theorem Wpl.asg {x : Operand} {v : Value} (hd : Nat.blt d C.n = true) (hx : f.ev x = v) (k : Wpl q C ops rest Q (f.upd d v) R M) :
    Wpl q C ops (⟨some d, .assign x, ty, pos, af, none⟩ :: rest) Q f R M := Wpl.assign hd (by rw [hx]; exact k)
theorem Wpl.pickT {c x y : Operand} {v : Value} (hd : Nat.blt d C.n = true) (hc : f.ev c = .bool true) (hx : f.ev x = v) (k : Wpl q C ops rest Q (f.upd d v) R M) :
    Wpl q C ops (⟨some d, .pick c x y, ty, pos, af, none⟩ :: rest) Q f R M :=
  Wpl.val rfl hd _ (fun w _ => by simp [execOp, hc, asBool, hx]) k
theorem Wpl.pickF {c x y : Operand} {v : Value} (hd : Nat.blt d C.n = true) (hc : f.ev c = .bool false) (hx : f.ev y = v) (k : Wpl q C ops rest Q (f.upd d v) R M) :
    Wpl q C ops (⟨some d, .pick c x y, ty, pos, af, none⟩ :: rest) Q f R M :=
  Wpl.val rfl hd _ (fun w _ => by simp [execOp, hc, asBool, hx]) k
theorem Wpl.extract {x : Operand} {i : Nat} {vs : Array Value} {v : Value} (hd : Nat.blt d C.n = true) (hx : f.ev x = .tuple vs) (hv : vs.toList[i]? = some v) (k : Wpl q C ops rest Q (f.upd d v) R M) :
    Wpl q C ops (⟨some d, .extract x i, ty, pos, af, none⟩ :: rest) Q f R M :=
  Wpl.val rfl hd v (fun w _ => by
    have : vs[i]? = some v := by simpa using hv
    simp [execOp, hx, Instr.extract, this]) k
theorem Wpl.unNot {x : Operand} {T : TypeId} {t : Bool} (hd : Nat.blt d C.n = true) (hx : f.ev x = .bool t) (k : Wpl q C ops rest Q (f.upd d (.bool (!t))) R M) :
    Wpl q C ops (⟨some d, .unOp .not T x, ty, pos, af, none⟩ :: rest) Q f R M :=
  Wpl.val rfl hd _ (fun w _ => by simp [execOp, hx, Op.unary]) k
theorem Wpl.nilCheck {x : Operand} {a : Addr} (hd : Nat.blt d C.n = true) (hx : f.ev x = .pointer (some a)) (k : Wpl q C ops rest Q (f.upd d (.pointer (some a))) R M) :
    Wpl q C ops (⟨some d, .nilCheck x, ty, pos, af, none⟩ :: rest) Q f R M :=
  Wpl.val rfl hd _ (fun w _ => by simp [execOp, hx]) k
theorem Wpl.makeFunc {fn : Fn} {first cap : Array Operand} {fs cs : List Value} (hd : Nat.blt d C.n = true) (h1 : first.toList.map f.ev = fs) (h2 : cap.toList.map f.ev = cs) (k : Wpl q C ops rest Q (f.upd d (.func fn fs.toArray cs.toArray)) R M) :
    Wpl q C ops (⟨some d, .makeFunc fn first cap, ty, pos, af, none⟩ :: rest) Q f R M :=
  Wpl.val rfl hd _ (fun w _ => by
    subst h1 h2
    have e : ∀ (l : Array Operand), l.map f.ev = (l.toList.map f.ev).toArray := fun l => by cases l; simp
    simp [execOp, Instr.makeFunc, e]) k

/-! int arithmetic -/
section arith
variable {x y : Operand} {T T2 : TypeId} {m n : Int}
def i64lo : Int := -9223372036854775808
def i64hi : Int := 9223372036854775807

theorem Wpl.addK {k : IntKind} (hd : Nat.blt d C.n = true) (hx : f.ev x = .int k m) (hy : f.ev y = .int k n) (k1 : Wpl q C ops rest Q (f.upd d (.int k (k.wrap (m + n)))) R M) :
    Wpl q C ops (⟨some d, .binOp .add T x y T2, ty, pos, af, none⟩ :: rest) Q f R M :=
  Wpl.val rfl hd _ (fun w _ => by simp [execOp, hx, hy, eqGuard, binOp, Op.intArith]) k1
theorem Wpl.subK {k : IntKind} (hd : Nat.blt d C.n = true) (hx : f.ev x = .int k m) (hy : f.ev y = .int k n) (k1 : Wpl q C ops rest Q (f.upd d (.int k (k.wrap (m - n)))) R M) :
    Wpl q C ops (⟨some d, .binOp .sub T x y T2, ty, pos, af, none⟩ :: rest) Q f R M :=
  Wpl.val rfl hd _ (fun w _ => by simp [execOp, hx, hy, eqGuard, binOp, Op.intArith]) k1
theorem Wpl.mulK {k : IntKind} (hd : Nat.blt d C.n = true) (hx : f.ev x = .int k m) (hy : f.ev y = .int k n) (k1 : Wpl q C ops rest Q (f.upd d (.int k (k.wrap (m * n)))) R M) :
    Wpl q C ops (⟨some d, .binOp .mul T x y T2, ty, pos, af, none⟩ :: rest) Q f R M :=
  Wpl.val rfl hd _ (fun w _ => by simp [execOp, hx, hy, eqGuard, binOp, Op.intArith]) k1
theorem Wpl.add (hd : Nat.blt d C.n = true) (hx : f.ev x = .int .i64 m) (hy : f.ev y = .int .i64 n) (hb : -9223372036854775808 ≤ m + n ∧ m + n ≤ 9223372036854775807)
    (k1 : Wpl q C ops rest Q (f.upd d (.int .i64 (m + n))) R M) : Wpl q C ops (⟨some d, .binOp .add T x y T2, ty, pos, af, none⟩ :: rest) Q f R M :=
  Wpl.addK hd hx hy (by rw [IntWalk.i64_in _ hb]; exact k1)
theorem Wpl.sub (hd : Nat.blt d C.n = true) (hx : f.ev x = .int .i64 m) (hy : f.ev y = .int .i64 n) (hb : -9223372036854775808 ≤ m - n ∧ m - n ≤ 9223372036854775807)
    (k1 : Wpl q C ops rest Q (f.upd d (.int .i64 (m - n))) R M) : Wpl q C ops (⟨some d, .binOp .sub T x y T2, ty, pos, af, none⟩ :: rest) Q f R M :=
  Wpl.subK hd hx hy (by rw [IntWalk.i64_in _ hb]; exact k1)
theorem Wpl.mul (hd : Nat.blt d C.n = true) (hx : f.ev x = .int .i64 m) (hy : f.ev y = .int .i64 n) (hb : -9223372036854775808 ≤ m * n ∧ m * n ≤ 9223372036854775807)
    (k1 : Wpl q C ops rest Q (f.upd d (.int .i64 (m * n))) R M) : Wpl q C ops (⟨some d, .binOp .mul T x y T2, ty, pos, af, none⟩ :: rest) Q f R M :=
  Wpl.mulK hd hx hy (by rw [IntWalk.i64_in _ hb]; exact k1)
theorem Wpl.quo (hd : Nat.blt d C.n = true) (hx : f.ev x = .int .i64 m) (hy : f.ev y = .int .i64 n) (hb : 0 ≤ m ∧ m ≤ 9223372036854775807 ∧ 1 ≤ n)
    (k1 : Wpl q C ops rest Q (f.upd d (.int .i64 (m / n))) R M) : Wpl q C ops (⟨some d, .binOp .quo T x y T2, ty, pos, af, none⟩ :: rest) Q f R M :=
  Wpl.val rfl hd _ (fun w _ => by
    have h0 : ¬ n = 0 := by omega
    have := IntWalk.i64_quo m n hb
    simp [execOp, hx, hy, eqGuard, binOp, Op.intDiv, h0, this]) k1
theorem Wpl.rem (hd : Nat.blt d C.n = true) (hx : f.ev x = .int .i64 m) (hy : f.ev y = .int .i64 n) (hb : 0 ≤ m ∧ 1 ≤ n)
    (k1 : Wpl q C ops rest Q (f.upd d (.int .i64 (m % n))) R M) : Wpl q C ops (⟨some d, .binOp .rem T x y T2, ty, pos, af, none⟩ :: rest) Q f R M :=
  Wpl.val rfl hd _ (fun w _ => by
    have h0 : ¬ n = 0 := by omega
    have := Int.tmod_eq_emod_of_nonneg (b := n) hb.1
    simp [execOp, hx, hy, eqGuard, binOp, Op.intDiv, h0, this]) k1

/-- shifts; the count is any kind of int -/
theorem Wpl.shl {k2 : IntKind} (hd : Nat.blt d C.n = true) (hx : f.ev x = .int .i64 m) (hy : f.ev y = .int k2 n) (h0 : 0 ≤ n ∧ n ≤ 64) (hb : -9223372036854775808 ≤ m * 2 ^ n.toNat ∧ m * 2 ^ n.toNat ≤ 9223372036854775807)
    (k1 : Wpl q C ops rest Q (f.upd d (.int .i64 (m * 2 ^ n.toNat))) R M) : Wpl q C ops (⟨some d, .binOp .shl T x y T2, ty, pos, af, none⟩ :: rest) Q f R M :=
  Wpl.val rfl hd _ (fun w _ => by
    have h1 : ¬ n < 0 := by omega
    have h2 : min n.toNat IntKind.i64.bits = n.toNat := by simp [IntKind.bits]; omega
    simp [execOp, hx, hy, eqGuard, binOp, Op.shift, h1, h2, IntWalk.i64_in _ hb]) k1
theorem Wpl.shlK {k k2 : IntKind} (hd : Nat.blt d C.n = true) (hx : f.ev x = .int k m) (hy : f.ev y = .int k2 n) (h0 : 0 ≤ n)
    (k1 : Wpl q C ops rest Q (f.upd d (.int k (k.wrap (m * 2 ^ (min n.toNat k.bits))))) R M) : Wpl q C ops (⟨some d, .binOp .shl T x y T2, ty, pos, af, none⟩ :: rest) Q f R M :=
  Wpl.val rfl hd _ (fun w _ => by
    have h1 : ¬ n < 0 := by omega
    simp [execOp, hx, hy, eqGuard, binOp, Op.shift, h1]) k1
theorem Wpl.shr {k k2 : IntKind} (hd : Nat.blt d C.n = true) (hx : f.ev x = .int k m) (hy : f.ev y = .int k2 n) (h0 : 0 ≤ n ∧ n ≤ k.bits)
    (k1 : Wpl q C ops rest Q (f.upd d (.int k (m / 2 ^ n.toNat))) R M) : Wpl q C ops (⟨some d, .binOp .shr T x y T2, ty, pos, af, none⟩ :: rest) Q f R M :=
  Wpl.val rfl hd _ (fun w _ => by
    have h1 : ¬ n < 0 := by omega
    have h2 : min n.toNat k.bits = n.toNat := by omega
    have h3 : m.fdiv (2 ^ n.toNat) = m / 2 ^ n.toNat := Int.fdiv_eq_ediv_of_nonneg _ (Int.le_of_lt (Int.pow_pos (by decide)))
    simp [execOp, hx, hy, eqGuard, binOp, Op.shift, h1, h2, h3]) k1

theorem Wpl.bitsK {k : IntKind} {op : BinOp} {r : Value} (hd : Nat.blt d C.n = true) (hx : f.ev x = .int k m) (hy : f.ev y = .int k n) (hop : op = .and ∨ op = .or ∨ op = .xor ∨ op = .andNot)
    (hr : ∀ w, (Op.intBits op k m n).run C.P w = .ok r w)
    (k1 : Wpl q C ops rest Q (f.upd d r) R M) : Wpl q C ops (⟨some d, .binOp op T x y T2, ty, pos, af, none⟩ :: rest) Q f R M :=
  Wpl.val rfl hd _ (fun w _ => by rcases hop with rfl | rfl | rfl | rfl <;> simp [execOp, hx, hy, eqGuard, binOp, hr]) k1

theorem ofInt_toNat64 {m : Int} (h : 0 ≤ m ∧ m ≤ 9223372036854775807) : (BitVec.ofInt 64 m).toNat = m.toNat := by
  rw [BitVec.toNat_ofInt]; omega
theorem ofInt_toNat8 {m : Int} (h : 0 ≤ m ∧ m ≤ 255) : (BitVec.ofInt 8 m).toNat = m.toNat := by
  rw [BitVec.toNat_ofInt]; omega
theorem Wpl.and (hd : Nat.blt d C.n = true) (hx : f.ev x = .int .i64 m) (hy : f.ev y = .int .i64 n) (h1 : 0 ≤ m ∧ m ≤ 9223372036854775807) (h2 : 0 ≤ n ∧ n ≤ 9223372036854775807)
    (k1 : Wpl q C ops rest Q (f.upd d (.int .i64 ((m.toNat &&& n.toNat : Nat) : Int))) R M) : Wpl q C ops (⟨some d, .binOp .and T x y T2, ty, pos, af, none⟩ :: rest) Q f R M :=
  Wpl.bitsK hd hx hy (.inl rfl) (r := .int .i64 ((m.toNat &&& n.toNat : Nat) : Int)) (fun w => by
    have h3 : m.toNat &&& n.toNat ≤ m.toNat := Nat.and_le_left
    have e : IntKind.i64.wrap ((BitVec.ofInt 64 m &&& BitVec.ofInt 64 n).toNat : Int) = ((m.toNat &&& n.toNat : Nat) : Int) := by
      rw [BitVec.toNat_and, ofInt_toNat64 h1, ofInt_toNat64 h2]
      exact IntWalk.i64_in _ (by omega)
    simp only [Op.intBits, Sem.run_pure]
    exact congrArg (fun z => Result.ok (Value.int .i64 z) w) e) k1
theorem Wpl.or (hd : Nat.blt d C.n = true) (hx : f.ev x = .int .i64 m) (hy : f.ev y = .int .i64 n) (h1 : 0 ≤ m ∧ m < 9223372036854775808) (h2 : 0 ≤ n ∧ n < 9223372036854775808)
    (k1 : Wpl q C ops rest Q (f.upd d (.int .i64 ((m.toNat ||| n.toNat : Nat) : Int))) R M) : Wpl q C ops (⟨some d, .binOp .or T x y T2, ty, pos, af, none⟩ :: rest) Q f R M :=
  Wpl.bitsK hd hx hy (.inr (.inl rfl)) (r := .int .i64 ((m.toNat ||| n.toNat : Nat) : Int)) (fun w => by
    have h3 : m.toNat ||| n.toNat < 2 ^ 63 := Nat.or_lt_two_pow (by omega) (by omega)
    have e : IntKind.i64.wrap ((BitVec.ofInt 64 m ||| BitVec.ofInt 64 n).toNat : Int) = ((m.toNat ||| n.toNat : Nat) : Int) := by
      rw [BitVec.toNat_or, ofInt_toNat64 (by omega), ofInt_toNat64 (by omega)]
      exact IntWalk.i64_in _ (by omega)
    simp only [Op.intBits, Sem.run_pure]
    exact congrArg (fun z => Result.ok (Value.int .i64 z) w) e) k1
theorem Wpl.xor (hd : Nat.blt d C.n = true) (hx : f.ev x = .int .i64 m) (hy : f.ev y = .int .i64 n) (h1 : 0 ≤ m ∧ m < 9223372036854775808) (h2 : 0 ≤ n ∧ n < 9223372036854775808)
    (k1 : Wpl q C ops rest Q (f.upd d (.int .i64 ((m.toNat ^^^ n.toNat : Nat) : Int))) R M) : Wpl q C ops (⟨some d, .binOp .xor T x y T2, ty, pos, af, none⟩ :: rest) Q f R M :=
  Wpl.bitsK hd hx hy (.inr (.inr (.inl rfl))) (r := .int .i64 ((m.toNat ^^^ n.toNat : Nat) : Int)) (fun w => by
    have h3 : m.toNat ^^^ n.toNat < 2 ^ 63 := Nat.xor_lt_two_pow (by omega) (by omega)
    have e : IntKind.i64.wrap ((BitVec.ofInt 64 m ^^^ BitVec.ofInt 64 n).toNat : Int) = ((m.toNat ^^^ n.toNat : Nat) : Int) := by
      rw [BitVec.toNat_xor, ofInt_toNat64 (by omega), ofInt_toNat64 (by omega)]
      exact IntWalk.i64_in _ (by omega)
    simp only [Op.intBits, Sem.run_pure]
    exact congrArg (fun z => Result.ok (Value.int .i64 z) w) e) k1
theorem Wpl.or8 (hd : Nat.blt d C.n = true) (hx : f.ev x = .int .u8 m) (hy : f.ev y = .int .u8 n) (h1 : 0 ≤ m ∧ m ≤ 255) (h2 : 0 ≤ n ∧ n ≤ 255)
    (k1 : Wpl q C ops rest Q (f.upd d (.int .u8 ((m.toNat ||| n.toNat : Nat) : Int))) R M) : Wpl q C ops (⟨some d, .binOp .or T x y T2, ty, pos, af, none⟩ :: rest) Q f R M :=
  Wpl.bitsK hd hx hy (.inr (.inl rfl)) (r := .int .u8 ((m.toNat ||| n.toNat : Nat) : Int)) (fun w => by
    have h3 : m.toNat ||| n.toNat < 2 ^ 8 := Nat.or_lt_two_pow (by omega) (by omega)
    have e : IntKind.u8.wrap ((BitVec.ofInt 8 m ||| BitVec.ofInt 8 n).toNat : Int) = ((m.toNat ||| n.toNat : Nat) : Int) := by
      rw [BitVec.toNat_or, ofInt_toNat8 h1, ofInt_toNat8 h2]
      exact IntWalk.u8_in _ (by omega)
    simp only [Op.intBits, Sem.run_pure]
    exact congrArg (fun z => Result.ok (Value.int .u8 z) w) e) k1
theorem Wpl.and8 (hd : Nat.blt d C.n = true) (hx : f.ev x = .int .u8 m) (hy : f.ev y = .int .u8 n) (h1 : 0 ≤ m ∧ m ≤ 255) (h2 : 0 ≤ n ∧ n ≤ 255)
    (k1 : Wpl q C ops rest Q (f.upd d (.int .u8 ((m.toNat &&& n.toNat : Nat) : Int))) R M) : Wpl q C ops (⟨some d, .binOp .and T x y T2, ty, pos, af, none⟩ :: rest) Q f R M :=
  Wpl.bitsK hd hx hy (.inl rfl) (r := .int .u8 ((m.toNat &&& n.toNat : Nat) : Int)) (fun w => by
    have h3 : m.toNat &&& n.toNat ≤ m.toNat := Nat.and_le_left
    have e : IntKind.u8.wrap ((BitVec.ofInt 8 m &&& BitVec.ofInt 8 n).toNat : Int) = ((m.toNat &&& n.toNat : Nat) : Int) := by
      rw [BitVec.toNat_and, ofInt_toNat8 h1, ofInt_toNat8 h2]
      exact IntWalk.u8_in _ (by omega)
    simp only [Op.intBits, Sem.run_pure]
    exact congrArg (fun z => Result.ok (Value.int .u8 z) w) e) k1

/-! comparisons: the walk forks at once; or the value is kept -/
theorem Wpl.cmpV {k : IntKind} {op : BinOp} {t : Bool} (hd : Nat.blt d C.n = true) (hx : f.ev x = .int k m) (hy : f.ev y = .int k n)
    (hop : (op = .lss ∧ t = decide (m < n)) ∨ (op = .leq ∧ t = decide (m ≤ n)) ∨ (op = .gtr ∧ t = decide (m > n)) ∨ (op = .geq ∧ t = decide (m ≥ n)) ∨ (op = .eql ∧ t = decide (m = n)) ∨ (op = .neq ∧ t = decide (m ≠ n)))
    (k1 : Wpl q C ops rest Q (f.upd d (.bool t)) R M) : Wpl q C ops (⟨some d, .binOp op T x y T2, ty, pos, af, none⟩ :: rest) Q f R M :=
  Wpl.val rfl hd _ (fun w _ => by
    rcases hop with ⟨rfl, rfl⟩ | ⟨rfl, rfl⟩ | ⟨rfl, rfl⟩ | ⟨rfl, rfl⟩ | ⟨rfl, rfl⟩ | ⟨rfl, rfl⟩ <;> simp [execOp, hx, hy, eqGuard, binOp, Op.intCmp]
    · by_cases h : m = n <;> simp [h]
    · by_cases h : m = n <;> simp [h]) k1

theorem Wpl.fork {op : BinOp} {p : Prop} [Decidable p] (hv : Wpl q C ops (⟨some d, .binOp op T x y T2, ty, pos, af, none⟩ :: rest) Q f R M ∨ True)
    (h : ∀ t, t = decide p → Wpl q C ops rest Q (f.upd d (.bool t)) R M → Wpl q C ops (⟨some d, .binOp op T x y T2, ty, pos, af, none⟩ :: rest) Q f R M)
    (h1 : p → Wpl q C ops rest Q (f.upd d (.bool true)) R M) (h2 : ¬ p → Wpl q C ops rest Q (f.upd d (.bool false)) R M) :
    Wpl q C ops (⟨some d, .binOp op T x y T2, ty, pos, af, none⟩ :: rest) Q f R M := by
  by_cases hp : p
  · exact h true (by simp [hp]) (h1 hp)
  · exact h false (by simp [hp]) (h2 hp)

theorem Wpl.lss {k : IntKind} (hd : Nat.blt d C.n = true) (hx : f.ev x = .int k m) (hy : f.ev y = .int k n)
    (h1 : m < n → Wpl q C ops rest Q (f.upd d (.bool true)) R M) (h2 : n ≤ m → Wpl q C ops rest Q (f.upd d (.bool false)) R M) :
    Wpl q C ops (⟨some d, .binOp .lss T x y T2, ty, pos, af, none⟩ :: rest) Q f R M :=
  Wpl.fork (p := m < n) (.inr trivial) (fun t ht k1 => Wpl.cmpV hd hx hy (.inl ⟨rfl, ht⟩) k1) h1 (fun h => h2 (by omega))
theorem Wpl.leq {k : IntKind} (hd : Nat.blt d C.n = true) (hx : f.ev x = .int k m) (hy : f.ev y = .int k n)
    (h1 : m ≤ n → Wpl q C ops rest Q (f.upd d (.bool true)) R M) (h2 : n < m → Wpl q C ops rest Q (f.upd d (.bool false)) R M) :
    Wpl q C ops (⟨some d, .binOp .leq T x y T2, ty, pos, af, none⟩ :: rest) Q f R M :=
  Wpl.fork (p := m ≤ n) (.inr trivial) (fun t ht k1 => Wpl.cmpV hd hx hy (.inr (.inl ⟨rfl, ht⟩)) k1) h1 (fun h => h2 (by omega))
theorem Wpl.gtr {k : IntKind} (hd : Nat.blt d C.n = true) (hx : f.ev x = .int k m) (hy : f.ev y = .int k n)
    (h1 : n < m → Wpl q C ops rest Q (f.upd d (.bool true)) R M) (h2 : m ≤ n → Wpl q C ops rest Q (f.upd d (.bool false)) R M) :
    Wpl q C ops (⟨some d, .binOp .gtr T x y T2, ty, pos, af, none⟩ :: rest) Q f R M :=
  Wpl.fork (p := m > n) (.inr trivial) (fun t ht k1 => Wpl.cmpV hd hx hy (.inr (.inr (.inl ⟨rfl, ht⟩))) k1) h1 (fun h => h2 (by omega))
theorem Wpl.geq {k : IntKind} (hd : Nat.blt d C.n = true) (hx : f.ev x = .int k m) (hy : f.ev y = .int k n)
    (h1 : n ≤ m → Wpl q C ops rest Q (f.upd d (.bool true)) R M) (h2 : m < n → Wpl q C ops rest Q (f.upd d (.bool false)) R M) :
    Wpl q C ops (⟨some d, .binOp .geq T x y T2, ty, pos, af, none⟩ :: rest) Q f R M :=
  Wpl.fork (p := m ≥ n) (.inr trivial) (fun t ht k1 => Wpl.cmpV hd hx hy (.inr (.inr (.inr (.inl ⟨rfl, ht⟩)))) k1) h1 (fun h => h2 (by omega))
theorem Wpl.eql {k : IntKind} (hd : Nat.blt d C.n = true) (hx : f.ev x = .int k m) (hy : f.ev y = .int k n)
    (h1 : m = n → Wpl q C ops rest Q (f.upd d (.bool true)) R M) (h2 : m ≠ n → Wpl q C ops rest Q (f.upd d (.bool false)) R M) :
    Wpl q C ops (⟨some d, .binOp .eql T x y T2, ty, pos, af, none⟩ :: rest) Q f R M :=
  Wpl.fork (p := m = n) (.inr trivial) (fun t ht k1 => Wpl.cmpV hd hx hy (.inr (.inr (.inr (.inr (.inl ⟨rfl, ht⟩))))) k1) h1 h2
theorem Wpl.neq {k : IntKind} (hd : Nat.blt d C.n = true) (hx : f.ev x = .int k m) (hy : f.ev y = .int k n)
    (h1 : m ≠ n → Wpl q C ops rest Q (f.upd d (.bool true)) R M) (h2 : m = n → Wpl q C ops rest Q (f.upd d (.bool false)) R M) :
    Wpl q C ops (⟨some d, .binOp .neq T x y T2, ty, pos, af, none⟩ :: rest) Q f R M :=
  Wpl.fork (p := m ≠ n) (.inr trivial) (fun t ht k1 => Wpl.cmpV hd hx hy (.inr (.inr (.inr (.inr (.inr ⟨rfl, ht⟩))))) k1) h1 (fun h => h2 (by omega))
end arith

/-! conversions, interfaces -/
theorem Wpl.convInt {x : Operand} {s t : TypeId} {k k2 : IntKind} {m : Int} (hd : Nat.blt d C.n = true) (hs : C.P.underlying s = some (.int k2)) (ht : C.P.underlying t = some (.int k)) (hx : f.ev x = .int k2 m)
    (k1 : Wpl q C ops rest Q (f.upd d (.int k (k.wrap m))) R M) : Wpl q C ops (⟨some d, .convert s t x, ty, pos, af, none⟩ :: rest) Q f R M :=
  Wpl.val rfl hd _ (fun w _ => by simp [execOp, hx, convert, run_underlying hs, run_underlying ht, Conv.intToInt]) k1
theorem Wpl.toI64 {x : Operand} {s t : TypeId} {k2 : IntKind} {m : Int} (hd : Nat.blt d C.n = true) (hs : C.P.underlying s = some (.int k2)) (ht : C.P.underlying t = some (.int .i64)) (hx : f.ev x = .int k2 m) (hb : -9223372036854775808 ≤ m ∧ m ≤ 9223372036854775807)
    (k1 : Wpl q C ops rest Q (f.upd d (.int .i64 m)) R M) : Wpl q C ops (⟨some d, .convert s t x, ty, pos, af, none⟩ :: rest) Q f R M :=
  Wpl.convInt hd hs ht hx (by rw [IntWalk.i64_in _ hb]; exact k1)
theorem Wpl.toU8 {x : Operand} {s t : TypeId} {k2 : IntKind} {m : Int} (hd : Nat.blt d C.n = true) (hs : C.P.underlying s = some (.int k2)) (ht : C.P.underlying t = some (.int .u8)) (hx : f.ev x = .int k2 m)
    (k1 : Wpl q C ops rest Q (f.upd d (.int .u8 (m % 256))) R M) : Wpl q C ops (⟨some d, .convert s t x, ty, pos, af, none⟩ :: rest) Q f R M :=
  Wpl.convInt hd hs ht hx (by rw [IntKind.wrap_u8]; exact k1)
theorem Wpl.makeInterface {x : Operand} {T : TypeId} {D : TypeDesc} (hd : Nat.blt d C.n = true) (hT : C.P.underlying T = some D) (hD : ∀ ms, D ≠ .interface ms)
    (k1 : Wpl q C ops rest Q (f.upd d (.iface T (f.ev x))) R M) : Wpl q C ops (⟨some d, .makeInterface T x, ty, pos, af, none⟩ :: rest) Q f R M :=
  Wpl.val rfl hd _ (fun w _ => by
    simp only [execOp, Instr.makeInterface, Sem.run_bind, run_underlying hT, Result.andThen_ok]
    cases D <;> first | rfl | exact absurd rfl (hD _)) k1

/-! len -/
theorem Wpl.lenSlice {x : Operand} {T E : TypeId} {a : Option Addr} {n c : Nat} (hd : Nat.blt d C.n = true) (hT : C.P.underlying T = some (.slice E)) (hx : f.ev x = .slice a n c)
    (k1 : Wpl q C ops rest Q (f.upd d (.int .i64 (n : Int))) R M) : Wpl q C ops (⟨some d, .call ⟨.builtin .len, #[x], #[T]⟩, ty, pos, af, none⟩ :: rest) Q f R M :=
  Wpl.val rfl hd _ (fun w _ => by simp [execOp, resolve, invoke, builtin, hx, Builtin.len_, run_underlying hT, goInt]) k1

end rules
end Go.SL
namespace Go.SL
open Go.RowKit

/-! how a state changes -/
theorem keys_append (A B : List Frag) : keys (A ++ B) = keys A ++ keys B := by simp [keys]
theorem keys_cons (F : Frag) (B : List Frag) : keys (F :: B) = F.map (·.1) ++ keys B := by simp [keys]
theorem keys_perm {A B : List Frag} (h : A.Perm B) : (keys A).Perm (keys B) := (h.flatten).map _

theorem Sat.perm {C : Cx} {R M M' : List Frag} {w : World} (h : Sat C R M w) (hp : M.Perm M') : Sat C R M' w :=
  ⟨h.os, h.tape, h.output, h.size, h.keep, h.ro, fun F hF => h.mu F (hp.mem_iff.2 hF), (keys_perm hp).nodup_iff.1 h.nodup,
    fun F hF p hp' hk => h.apart F hF p hp' ((keys_perm hp).mem_iff.2 hk), fun k hk => h.dirty k ((keys_perm hp).mem_iff.2 hk)⟩

theorem Sat.weakR {C : Cx} {R R' M : List Frag} {w : World} (h : Sat C R M w) (hs : ∀ F ∈ R', F ∈ R) : Sat C R' M w :=
  ⟨h.os, h.tape, h.output, h.size, h.keep, fun F hF => h.ro F (hs F hF), h.mu, h.nodup, fun F hF => h.apart F (hs F hF), h.dirty⟩

theorem sublist_flatten {A B : List Frag} (h : A.Sublist B) : A.flatten.Sublist B.flatten := by
  induction h with
  | slnil => exact List.Sublist.refl _
  | cons a _ ih => exact ih.trans (List.sublist_append_right a _)
  | cons_cons a _ ih => exact (List.Sublist.refl a).append ih
theorem Sat.drop {C : Cx} {R M M' : List Frag} {w : World} (h : Sat C R M w) (hs : M'.Sublist M) : Sat C R M' w := by
  have hk : (keys M').Sublist (keys M) := (sublist_flatten hs).map _
  exact ⟨h.os, h.tape, h.output, h.size, h.keep, h.ro, fun F hF => h.mu F (hs.subset hF), h.nodup.sublist hk,
    fun F hF p hp hk' => h.apart F hF p hp (hk.subset hk'), fun k hk' => h.dirty k (hk.subset hk')⟩

theorem Sat.freeze {C : Cx} {R M : List Frag} {F : Frag} {w : World} (h : Sat C R (F :: M) w) : Sat C (F :: R) M w := by
  have hn := h.nodup
  rw [keys_cons] at hn
  have h2 := List.nodup_append.1 hn
  refine ⟨h.os, h.tape, h.output, h.size, h.keep, fun G hG => ?_, fun G hG => h.mu G (List.mem_cons_of_mem _ hG), h2.2.1, fun G hG p hp hk => ?_, fun k hk => h.dirty k (by rw [keys_cons]; exact List.mem_append_right _ hk)⟩
  · rcases List.mem_cons.1 hG with rfl | hG
    · exact h.mu G (List.mem_cons_self ..)
    · exact h.ro G hG
  · rcases List.mem_cons.1 hG with rfl | hG
    · exact h2.2.2 p.1 (List.mem_map_of_mem hp) p.1 hk rfl
    · exact h.apart G hG p hp (by rw [keys_cons]; exact List.mem_append_right _ hk)

theorem Sat.lt {C : Cx} {R M : List Frag} {w : World} (h : Sat C R M w) {k : Nat} (hk : k ∈ keys M) : k < w.heap.size := by
  obtain ⟨p, hp, rfl⟩ := List.mem_map.1 hk
  obtain ⟨F, hF, hpF⟩ := List.mem_flatten.1 hp
  exact In_lt (h.mu F hF) hpF

/-- the pieces M1 are changed to M1', and new read-only pieces come -/
theorem Sat.change {C : Cx} {R M1 Mr M1' R' : List Frag} {w w' : World} (h : Sat C R (M1 ++ Mr) w)
    (hos : w'.os = w.os) (htape : w'.tape = w.tape) (hout : w'.output = w.output) (hsize : w.heap.size ≤ w'.heap.size)
    (hkeep : ∀ k, k < w.heap.size → k ∉ keys M1 → w'.heap[k]? = w.heap[k]?) (hin : ∀ F ∈ M1', F.In w') (hnd : (keys M1').Nodup)
    (hnew : ∀ k ∈ keys M1', k ∈ keys M1 ∨ w.heap.size ≤ k) (hr : ∀ F ∈ R', F.In w') (hra : ∀ F ∈ R', ∀ p ∈ F, p.1 ∉ keys (M1' ++ Mr)) :
    Sat C (R' ++ R) (M1' ++ Mr) w' := by
  have hn := h.nodup
  rw [keys_append] at hn
  have hn2 := List.nodup_append.1 hn
  have hlt1 : ∀ k ∈ keys M1, k < w.heap.size := fun k hk => h.lt (by rw [keys_append]; exact List.mem_append_left _ hk)
  have hltr : ∀ k ∈ keys Mr, k < w.heap.size := fun k hk => h.lt (by rw [keys_append]; exact List.mem_append_right _ hk)
  have hdisj : ∀ k ∈ keys M1', k ∉ keys Mr := fun k hk hk2 => by
    rcases hnew k hk with h1 | h1
    · exact hn2.2.2 k h1 k hk2 rfl
    · have := hltr k hk2; omega
  refine ⟨hos.trans h.os, htape.trans h.tape, hout.trans h.output, Nat.le_trans h.size hsize, fun k hk hD => ?_, fun F hF p hp => ?_, fun F hF p hp => ?_, ?_, fun F hF p hp hk => ?_, fun k hk => ?_⟩
  · have hk1 : k ∉ keys M1 := fun hh => by
      rcases h.dirty k (by rw [keys_append]; exact List.mem_append_left _ hh) with h1 | h1
      · exact hD h1
      · omega
    rw [hkeep k (Nat.lt_of_lt_of_le hk h.size) hk1]
    exact h.keep k hk hD
  · rcases List.mem_append.1 hF with hF | hF
    · exact hr F hF p hp
    · rw [hkeep _ (In_lt (h.ro F hF) hp) (fun hh => h.apart F hF p hp (by rw [keys_append]; exact List.mem_append_left _ hh))]
      exact h.ro F hF p hp
  · rcases List.mem_append.1 hF with hF | hF
    · exact hin F hF p hp
    · rw [hkeep _ (hltr _ (mem_keys hF hp)) (fun hh => hn2.2.2 p.1 hh p.1 (mem_keys hF hp) rfl)]
      exact h.mu F (List.mem_append_right _ hF) p hp
  · rw [keys_append]
    exact List.nodup_append.2 ⟨hnd, hn2.2.1, fun a ha b hb e => hdisj a ha (e ▸ hb)⟩
  · rcases List.mem_append.1 hF with hF | hF
    · exact hra F hF p hp hk
    · rw [keys_append] at hk
      rcases List.mem_append.1 hk with hk | hk
      · rcases hnew _ hk with h1 | h1
        · exact h.apart F hF p hp (by rw [keys_append]; exact List.mem_append_left _ h1)
        · have := In_lt (h.ro F hF) hp; omega
      · exact h.apart F hF p hp (by rw [keys_append]; exact List.mem_append_right _ hk)
  · rw [keys_append] at hk
    rcases List.mem_append.1 hk with hk | hk
    · rcases hnew _ hk with h1 | h1
      · exact h.dirty k (by rw [keys_append]; exact List.mem_append_left _ h1)
      · exact .inr (Nat.le_trans h.size h1)
    · exact h.dirty k (by rw [keys_append]; exact List.mem_append_right _ hk)

theorem perm_of_get : ∀ {M : List Frag} {i : Nat} {F : Frag}, M[i]? = some F → M.Perm ([F] ++ M.eraseIdx i)
  | [], i, F, h => by simp at h
  | A :: M, 0, F, h => by simp at h; subst h; simp
  | A :: M, i + 1, F, h => by
    have := perm_of_get (M := M) (i := i) (F := F) (by simpa using h)
    simp only [List.eraseIdx_cons_succ]
    exact (List.Perm.cons A this).trans (List.Perm.swap _ _ _)

theorem perm_set {M : List Frag} {i : Nat} {F F' : Frag} (h : M[i]? = some F) : ([F'] ++ M.eraseIdx i).Perm (M.set i F') := by
  have hi := (List.getElem?_eq_some_iff.1 h).1
  have h2 : (M.set i F')[i]? = some F' := by simp [hi]
  have := (perm_of_get h2).symm
  rwa [List.eraseIdx_set_eq] at this

/-- one piece is changed -/
theorem Sat.set {C : Cx} {R M : List Frag} {i : Nat} {F F' : Frag} {w w' : World} (h : Sat C R M w) (hi : M[i]? = some F)
    (hos : w'.os = w.os) (htape : w'.tape = w.tape) (hout : w'.output = w.output) (hsize : w.heap.size ≤ w'.heap.size)
    (hkeep : ∀ k, k < w.heap.size → k ∉ F.map (·.1) → w'.heap[k]? = w.heap[k]?) (hin : F'.In w') (hnd : (F'.map (·.1)).Nodup)
    (hnew : ∀ k ∈ F'.map (·.1), k ∈ F.map (·.1) ∨ w.heap.size ≤ k) : Sat C R (M.set i F') w' := by
  have h1 : Sat C R ([F] ++ M.eraseIdx i) w := h.perm (perm_of_get hi)
  have ek : keys [F] = F.map (·.1) := by simp [keys]
  have ek' : keys [F'] = F'.map (·.1) := by simp [keys]
  have h2 : Sat C ([] ++ R) ([F'] ++ M.eraseIdx i) w' := h1.change hos htape hout hsize (by rw [ek]; exact hkeep) (fun G hG => by rw [List.mem_singleton.1 hG]; exact hin) (by rw [ek']; exact hnd)
    (by rw [ek, ek']; exact hnew) (fun G hG => by cases hG) (fun G hG => by cases hG)
  exact h2.perm (perm_set hi)

theorem Sat.alloc {C : Cx} {R M : List Frag} {w : World} (h : Sat C R M w) (o : Obj) : Sat C R ([(w.heap.size, o)] :: M) (w.alloc o) := by
  have h1 : Sat C R ([] ++ M) w := h
  have : Sat C ([] ++ R) ([[(w.heap.size, o)]] ++ M) (w.alloc o) := h1.change rfl rfl rfl (by simp) (fun k hk _ => Below.heap_alloc w o k hk)
    (fun F hF p hp => by rw [List.mem_singleton.1 hF] at hp; rw [List.mem_singleton.1 hp]; exact heap_alloc_new w o) (by simp [keys]) (fun k hk => .inr (by simp [keys] at hk; omega)) (fun F hF => by cases hF) (fun F hF => by cases hF)
  exact this

/-! what is known of memory -/
def Known (R M : List Frag) (b : Nat) (o : Obj) : Prop := ∃ F, (F ∈ R ∨ F ∈ M) ∧ (b, o) ∈ F
theorem Known.heap {C : Cx} {R M : List Frag} {w : World} {b : Nat} {o : Obj} (h : Sat C R M w) (hk : Known R M b o) : w.heap[b]? = some o := by
  obtain ⟨F, hF | hF, hp⟩ := hk
  · exact h.ro F hF _ hp
  · exact h.mu F hF _ hp
theorem Known.m {R M : List Frag} {b : Nat} {o : Obj} (i j : Nat) (h : M[i]?.bind (·[j]?) = some (b, o)) : Known R M b o := by
  cases hM : M[i]? with
  | none => rw [hM] at h; cases h
  | some F =>
    rw [hM] at h
    exact ⟨F, .inr (List.mem_of_getElem? hM), List.mem_of_getElem? h⟩
theorem Known.r {R M : List Frag} {b : Nat} {o : Obj} (i j : Nat) (h : R[i]?.bind (·[j]?) = some (b, o)) : Known R M b o := by
  cases hM : R[i]? with
  | none => rw [hM] at h; cases h
  | some F =>
    rw [hM] at h
    exact ⟨F, .inl (List.mem_of_getElem? hM), List.mem_of_getElem? h⟩
def HasF (R M : List Frag) (F : Frag) : Prop := F ∈ R ∨ F ∈ M
theorem HasF.r {R M : List Frag} {F : Frag} (i : Nat) (h : R[i]? = some F) : HasF R M F := .inl (List.mem_of_getElem? h)
theorem HasF.m {R M : List Frag} {F : Frag} (i : Nat) (h : M[i]? = some F) : HasF R M F := .inr (List.mem_of_getElem? h)

/-! types -/
structure ElemT (P : Program) (E : TypeId) (agg : Bool) (k : Nat) (z : Value) (bytes : Nat) : Prop where
  info : ∃ i, P.info? E = some i ∧ i.zero = some z ∧ i.size = k ∧ i.bytes = bytes
  und : ∃ D, P.underlying E = some D ∧ (match D with | .struct _ | .array _ _ => true | _ => false) = agg
  zs : z.cells.size = k
theorem ElemT.of {P : Program} {E : TypeId} {agg : Bool} {k : Nat} {z : Value} {bytes : Nat} (h : (P.info? E).map (fun i => (i.zero, i.size, i.bytes)) = some (some z, k, bytes))
    (hu : (P.underlying E).map (fun D => match D with | .struct _ | .array _ _ => true | _ => false) = some agg) (hz : z.cells.size = k) : ElemT P E agg k z bytes := by
  obtain ⟨i, h1, h2, h3, h4⟩ := info_parts h
  refine ⟨⟨i, h1, h2, h3, h4⟩, ?_, hz⟩
  cases hD : P.underlying E with
  | none => rw [hD] at hu; cases hu
  | some D => rw [hD] at hu; exact ⟨D, rfl, by simpa using hu⟩
theorem ElemT.run_size {P : Program} {E : TypeId} {agg : Bool} {k : Nat} {z : Value} {bytes : Nat} (h : ElemT P E agg k z bytes) (w : World) : (sizeOf E).run P w = .ok k w := by
  obtain ⟨i, h1, h2, h3, h4⟩ := h.info
  simp [sizeOf, typeInfo, h1, h3]
theorem ElemT.run_zero {P : Program} {E : TypeId} {agg : Bool} {k : Nat} {z : Value} {bytes : Nat} (h : ElemT P E agg k z bytes) (w : World) : (zeroValue E).run P w = .ok z w := by
  obtain ⟨i, h1, h2, h3, h4⟩ := h.info
  simp [zeroValue, typeInfo, h1, h2]
theorem ElemT.run_agg {P : Program} {E : TypeId} {agg : Bool} {k : Nat} {z : Value} {bytes : Nat} (h : ElemT P E agg k z bytes) (w : World) : (isAgg E).run P w = .ok agg w := by
  obtain ⟨D, h1, h2⟩ := h.und
  subst h2
  simp only [isAgg, Sem.run_bind, run_underlying h1, Result.andThen_ok]
  cases D <;> rfl

theorem addr_add (b off j : Nat) : (⟨b, off, none⟩ : Addr).add j = ⟨b, off + j, none⟩ := by unfold Addr.add; split <;> simp_all

/-! rows -/
def Row (F : Frag) (k : Nat) (v : Value) (n : Nat) (xs : List Value) : Prop :=
  xs.length = n * k ∧ ∃ a cap, v = .slice a n cap ∧ n ≤ cap ∧ cap ≤ maxLen ∧
    (0 < n → ∃ b off c E fz, a = some ⟨b, off, none⟩ ∧ (b, Obj.cells c E fz) ∈ F ∧ ∀ j, j < n * k → c[off + j]? = xs[j]?)

def OwnRow (E : TypeId) (k : Nat) (F : Frag) (v : Value) (n : Nat) (xs : List Value) : Prop :=
  xs.length = n * k ∧ ((v = .slice none 0 0 ∧ n = 0 ∧ F = []) ∨
    ∃ b cap c, v = .slice (some ⟨b, 0, none⟩) n cap ∧ F = [(b, Obj.cells c E (0, 0))] ∧ n ≤ cap ∧ cap ≤ maxLen ∧ c.size = cap * k ∧ c.toList.take (n * k) = xs)

theorem OwnRow.nil (E : TypeId) (k : Nat) : OwnRow E k [] (.slice none 0 0) 0 [] := ⟨by simp, .inl ⟨rfl, rfl, rfl⟩⟩

theorem OwnRow.row {E : TypeId} {k : Nat} {F : Frag} {v : Value} {n : Nat} {xs : List Value} (h : OwnRow E k F v n xs) : Row F k v n xs := by
  obtain ⟨hl, ⟨rfl, rfl, rfl⟩ | ⟨b, cap, c, rfl, rfl, h1, h2, h3, h4⟩⟩ := h
  · exact ⟨hl, none, 0, rfl, Nat.le_refl _, by unfold maxLen; omega, fun h => absurd h (by omega)⟩
  · refine ⟨hl, _, cap, rfl, h1, h2, fun _ => ⟨b, 0, c, E, (0, 0), rfl, List.mem_singleton.2 rfl, fun j hj => ?_⟩⟩
    rw [← h4, List.getElem?_take, if_pos hj]
    simp

theorem Row.len {F : Frag} {k : Nat} {v : Value} {n : Nat} {xs : List Value} (h : Row F k v n xs) : ∃ a cap, v = .slice a n cap := by
  obtain ⟨_, a, cap, h1, _⟩ := h
  exact ⟨a, cap, h1⟩

theorem Row.mono {F F' : Frag} {k : Nat} {v : Value} {n : Nat} {xs : List Value} (h : Row F k v n xs) (hs : ∀ p ∈ F, p ∈ F') : Row F' k v n xs := by
  obtain ⟨h1, a, cap, h2, h3, h4, h5⟩ := h
  refine ⟨h1, a, cap, h2, h3, h4, fun hn => ?_⟩
  obtain ⟨b, off, c, E, fz, e1, e2, e3⟩ := h5 hn
  exact ⟨b, off, c, E, fz, e1, hs _ e2, e3⟩

section rules
variable {q : Md} {C : Cx} {ops : Array Oper} {rest : List Oper} {Q : Exit → Env → List Frag → List Frag → Prop} {f : Env} {R M : List Frag}
variable {d : Nat} {ty : TypeId} {pos : String} {af : Array Edge}

/-! state rules -/
theorem Wpl.reorder {M' : List Frag} (hp : M.Perm M') (k : Wpl .seq C ops rest Q f R M') : Wpl .seq C ops rest Q f R M := fun a w ha hw => k a w ha (hw.perm hp)
theorem Wpl.dropM {M' : List Frag} (hp : M'.Sublist M) (k : Wpl .seq C ops rest Q f R M') : Wpl .seq C ops rest Q f R M := fun a w ha hw => k a w ha (hw.drop hp)
theorem Wpl.weakR {R' : List Frag} (hp : ∀ F ∈ R', F ∈ R) (k : Wpl .seq C ops rest Q f R' M) : Wpl .seq C ops rest Q f R M := fun a w ha hw => k a w ha (hw.weakR hp)
theorem Wpl.freezeAt (i : Nat) {F : Frag} (hi : M[i]? = some F) (k : Wpl .seq C ops rest Q f (F :: R) (M.eraseIdx i)) : Wpl .seq C ops rest Q f R M := fun a w ha hw =>
  k a w ha (Sat.freeze (hw.perm (perm_of_get hi)))
theorem Wpc.reorder {c : Code} {M' : List Frag} (hp : M.Perm M') (k : Wpc C c Q f R M') : Wpc C c Q f R M := fun a w ha hw => k a w ha (hw.perm hp)
theorem Wpc.dropM {c : Code} {M' : List Frag} (hp : M'.Sublist M) (k : Wpc C c Q f R M') : Wpc C c Q f R M := fun a w ha hw => k a w ha (hw.drop hp)
theorem Wpc.weakR {c : Code} {R' : List Frag} (hp : ∀ F ∈ R', F ∈ R) (k : Wpc C c Q f R' M) : Wpc C c Q f R M := fun a w ha hw => k a w ha (hw.weakR hp)
theorem Wpc.freezeAt {c : Code} (i : Nat) {F : Frag} (hi : M[i]? = some F) (k : Wpc C c Q f (F :: R) (M.eraseIdx i)) : Wpc C c Q f R M := fun a w ha hw =>
  k a w ha (Sat.freeze (hw.perm (perm_of_get hi)))
/-- the frame is named anew -/
theorem Wpc.reframe {c : Code} (L : List (Nat × Value)) (hL : Agree f L) (k : ∀ g, Wpc C c Q (Env.mk L g) R M) : Wpc C c Q f R M := by
  rw [← hL.mk]; exact k f
theorem Wpl.reframe (L : List (Nat × Value)) (hL : Agree f L) (k : ∀ g, Wpl q C ops rest Q (Env.mk L g) R M) : Wpl q C ops rest Q f R M := by
  rw [← hL.mk]; exact k f

/-! loads -/
theorem Wpl.load {x : Operand} {T E z by_ fz} {b off : Nat} {c : Array Value} {v : Value} (hd : Nat.blt d C.n = true) (hT : ElemT C.P T false 1 z by_) (hx : f.ev x = .pointer (some ⟨b, off, none⟩)) (hk : Known R M b (.cells c E fz))
    (hc : c.toList[off]? = some v) (k : Wpl q C ops rest Q (f.upd d v) R M) : Wpl q C ops (⟨some d, .load T x, ty, pos, af, none⟩ :: rest) Q f R M :=
  Wpl.val rfl hd v (fun w hw => by
    have h1 := hk.heap hw
    have h2 : w.cell? ⟨b, off, none⟩ = some v := by rw [cell_of_row w b off c E fz h1]; simpa using hc
    simp [execOp, hx, Instr.loadAt, Instr.sureAddr, loadVar, hT.run_agg, h2]) k

theorem Wpl.loadAgg {x : Operand} {T E z by_ fz} {n b off : Nat} {c : Array Value} {cs : List Value} (hd : Nat.blt d C.n = true) (hT : ElemT C.P T true n z by_) (hx : f.ev x = .pointer (some ⟨b, off, none⟩)) (hk : Known R M b (.cells c E fz))
    (hl : cs.length = n) (hc : (c.toList.drop off).take n = cs) (k : Wpl q C ops rest Q (f.upd d (.agg cs.toArray)) R M) : Wpl q C ops (⟨some d, .load T x, ty, pos, af, none⟩ :: rest) Q f R M :=
  Wpl.val rfl hd _ (fun w hw => by
    have h1 := hk.heap hw
    have h2 : (loadCells ⟨b, off, none⟩ cs.length).run C.P w = .ok cs.toArray w := run_loadCells_list w _ cs (fun j v hj => by
      rw [addr_add, cell_of_row w b _ c E fz h1]
      have hlt := (List.getElem?_eq_some_iff.1 hj).1
      rw [← hc, List.getElem?_take, if_pos (by omega), List.getElem?_drop] at hj
      simpa using hj)
    rw [hl] at h2
    simp [execOp, hx, Instr.loadAt, Instr.sureAddr, loadVar, hT.run_agg, hT.run_size, h2]) k

/-! addresses -/
theorem Wpl.indexAddr {s i : Operand} {T E : TypeId} {agg : Bool} {kk by_ n : Nat} {z : Value} {F : Frag} {v : Value} {xs : List Value} {ki : IntKind} {m : Int} (hd : Nat.blt d C.n = true) (hT : C.P.underlying T = some (.slice E)) (hE : ElemT C.P E agg kk z by_)
    (hs : f.ev s = v) (hrow : Row F kk v n xs) (hi : f.ev i = .int ki m) (h0 : 0 ≤ m ∧ m < n)
    (k : ∀ b off c E' fz, (b, Obj.cells c E' fz) ∈ F → (∀ j, j < kk → c[off + j]? = xs[m.toNat * kk + j]?) → Wpl q C ops rest Q (f.upd d (.pointer (some ⟨b, off, none⟩))) R M) :
    Wpl q C ops (⟨some d, .indexAddr T s i, ty, pos, af, none⟩ :: rest) Q f R M := by
  obtain ⟨hl, a, cap, rfl, h1, h2, h3⟩ := hrow
  obtain ⟨b, off, c, E', fz, rfl, hp, hc⟩ := h3 (by omega)
  refine Wpl.val rfl hd (.pointer (some ⟨b, off + m.toNat * kk, none⟩)) (fun w hw => ?_) (k b (off + m.toNat * kk) c E' fz hp (fun j hj => ?_))
  · simp [execOp, hs, hi, Instr.indexAt, asIntOf, run_underlying hT, h0.1, h0.2, hE.run_size, addr_add]
  · have e := hc (m.toNat * kk + j) (by
      have : (m.toNat + 1) * kk ≤ n * kk := Nat.mul_le_mul_right _ (by omega)
      rw [Nat.add_mul] at this
      omega)
    rw [Nat.add_assoc]
    exact e

theorem Wpl.indexLoad {s i : Operand} {d2 : Nat} {T E ty2 : TypeId} {pos2 : String} {af2 : Array Edge} {by_ n : Nat} {z : Value} {F : Frag} {v u : Value} {xs : List Value} {ki : IntKind} {m : Int} (hd : Nat.blt d C.n = true) (hd2 : Nat.blt d2 C.n = true) (hT : C.P.underlying T = some (.slice E)) (hE : ElemT C.P E false 1 z by_)
    (hF : HasF R M F) (hs : f.ev s = v) (hrow : Row F 1 v n xs) (hi : f.ev i = .int ki m) (h0 : 0 ≤ m ∧ m < n) (hu : xs[m.toNat]? = some u)
    (k : ∀ p, Wpl q C ops rest Q ((f.upd d p).upd d2 u) R M) :
    Wpl q C ops (⟨some d, .indexAddr T s i, ty, pos, af, none⟩ :: ⟨some d2, .load E (.tmp d), ty2, pos2, af2, none⟩ :: rest) Q f R M :=
  Wpl.indexAddr hd hT hE hs hrow hi h0 fun b off c E' fz hp hc =>
    Wpl.load (b := b) (off := off) hd2 hE (by simp only [Env.ev, Env.upd, Nat.beq_refl, cond_true]) ⟨F, hF, hp⟩ (by have := hc 0 (by omega); rw [Nat.add_zero, Nat.mul_one, Nat.add_zero, hu] at this; simpa using this) (k _)

theorem Wpl.indexLoadAgg {s i : Operand} {d2 : Nat} {T E ty2 : TypeId} {pos2 : String} {af2 : Array Edge} {by_ n kk : Nat} {z : Value} {F : Frag} {v : Value} {xs us : List Value} {ki : IntKind} {m : Int} (hd : Nat.blt d C.n = true) (hd2 : Nat.blt d2 C.n = true) (hT : C.P.underlying T = some (.slice E)) (hE : ElemT C.P E true kk z by_)
    (hF : HasF R M F) (hs : f.ev s = v) (hrow : Row F kk v n xs) (hi : f.ev i = .int ki m) (h0 : 0 ≤ m ∧ m < n) (hl : us.length = kk) (hu : (xs.drop (m.toNat * kk)).take kk = us)
    (k : ∀ p, Wpl q C ops rest Q ((f.upd d p).upd d2 (.agg us.toArray)) R M) :
    Wpl q C ops (⟨some d, .indexAddr T s i, ty, pos, af, none⟩ :: ⟨some d2, .load E (.tmp d), ty2, pos2, af2, none⟩ :: rest) Q f R M :=
  Wpl.indexAddr hd hT hE hs hrow hi h0 fun b off c E' fz hp hc =>
    Wpl.loadAgg (b := b) (off := off) hd2 hE (by simp only [Env.ev, Env.upd, Nat.beq_refl, cond_true]) ⟨F, hF, hp⟩ hl (by
      rw [← hu]
      refine List.ext_getElem? fun j => ?_
      simp only [List.getElem?_take, List.getElem?_drop]
      split
      · rename_i hj
        have := hc j hj
        simpa using this
      · rfl) (k _)

theorem Wpl.fieldAddr {x : Operand} {S : TypeId} {i b off o : Nat} (hd : Nat.blt d C.n = true) (hx : f.ev x = .pointer (some ⟨b, off, none⟩))
    (hf : ∀ b off w, (Instr.fieldAt S (.pointer (some ⟨b, off, none⟩)) i).run C.P w = .ok (.pointer (some ⟨b, off + o, none⟩)) w)
    (k : Wpl q C ops rest Q (f.upd d (.pointer (some ⟨b, off + o, none⟩))) R M) : Wpl q C ops (⟨some d, .fieldAddr S x i, ty, pos, af, none⟩ :: rest) Q f R M :=
  Wpl.val rfl hd _ (fun w hw => by simp [execOp, hx, hf]) k

/-! new memory -/
theorem Wpl.newBlock {o : Oper} {d : Nat} (hg : o.guard = none) (hdo : o.dst = some d) (hd : Nat.blt d C.n = true) (ob : Obj)
    (v : Nat → Value) (h : ∀ w, Sat C R M w → (execOp f.ev o).run C.P w = .ok (.value (v w.heap.size)) (w.alloc ob))
    (k : ∀ b, Wpl .seq C ops rest Q (f.upd d (v b)) R ([(b, ob)] :: M)) : Wpl .seq C ops (o :: rest) Q f R M :=
  Wpl.chg hg (by rw [hdo]; exact hd) fun w hw => ⟨v w.heap.size, w.alloc ob, R, _, h w hw, hw.alloc ob, by rw [hdo]; exact k _⟩

theorem Wpl.alloc {T : TypeId} {agg : Bool} {kk by_ : Nat} {z : Value} (hd : Nat.blt d C.n = true) (hT : ElemT C.P T agg kk z by_)
    (k : ∀ b, Wpl .seq C ops rest Q (f.upd d (.pointer (some ⟨b, 0, none⟩))) R ([(b, .cells z.cells T (0, 0))] :: M)) :
    Wpl .seq C ops (⟨some d, .alloc T, ty, pos, af, none⟩ :: rest) Q f R M :=
  Wpl.newBlock rfl rfl hd (.cells z.cells T (0, 0)) (fun b => .pointer (some ⟨b, 0, none⟩)) (fun w hw => by
    simp [execOp, Instr.alloc, hT.run_zero, newVar, newRow]) k

theorem Wpl.box {T : TypeId} {x : Operand} {v : Value} (hd : Nat.blt d C.n = true) (hx : f.ev x = v)
    (k : ∀ b, Wpl .seq C ops rest Q (f.upd d (.pointer (some ⟨b, 0, none⟩))) R ([(b, .cells v.cells T (0, 0))] :: M)) :
    Wpl .seq C ops (⟨some d, .box T x, ty, pos, af, none⟩ :: rest) Q f R M :=
  Wpl.newBlock rfl rfl hd (.cells v.cells T (0, 0)) (fun b => .pointer (some ⟨b, 0, none⟩)) (fun w hw => by
    simp [execOp, hx, Instr.box, newVar, newRow]) k

/-! stores -/
theorem setRow_set (w : World) (b : Nat) (c cs : Array Value) (E : TypeId) (k : Nat) : (w.setRow b cs).heap.size = w.heap.size := size_setRow w b cs

theorem Wpl.storeCells {x y : Operand} {T E : TypeId} {i j b off : Nat} {F : Frag} {c : Array Value} {v : Value}
    (hx : f.ev x = .pointer (some ⟨b, off, none⟩)) (hy : f.ev y = v) (hsz : ∀ w, (sizeOf T).run C.P w = .ok v.cells.size w) (hi : M[i]? = some F) (hj : F[j]? = some (b, .cells c E (0, 0))) (hone : ∀ u ∈ v.cells.toList, u.oneCell' = true)
    (hb : off + v.cells.size ≤ c.size)
    (k : Wpl .seq C ops rest Q f R (M.set i (F.set j (b, .cells (c.toList.take off ++ v.cells.toList ++ c.toList.drop (off + v.cells.size)).toArray E (0, 0))))) :
    Wpl .seq C ops (⟨none, .store T x y, ty, pos, af, none⟩ :: rest) Q f R M := by
  refine Wpl.chgSkip rfl rfl fun w hw => ?_
  have hF := hw.mu F (List.mem_of_getElem? hi)
  have hheap := hF _ (List.mem_of_getElem? hj)
  have hst := run_storeCells_at C.P b off E v.cells.toList 0 c w hheap (by simpa using hb) hone
  refine ⟨w.setRow b (c.toList.take off ++ v.cells.toList ++ c.toList.drop (off + v.cells.size)).toArray, R, _, ?_, ?_, k⟩
  · have hst' : (Go.storeCells ⟨b, off, none⟩ v.cells.toList).run C.P w = .ok () (w.setRow b (c.toList.take off ++ v.cells.toList ++ c.toList.drop (off + v.cells.size)).toArray) := by
      have := hst
      simp only [Nat.add_zero, Array.length_toList] at this
      exact this
    simp [execOp, hx, hy, Instr.storeAt, Instr.sureAddr, storeVar, hsz, hst']
  · have hjl := (List.getElem?_eq_some_iff.1 hj).1
    have hje := (List.getElem?_eq_some_iff.1 hj).2
    have hkeys : (F.set j (b, Obj.cells (c.toList.take off ++ v.cells.toList ++ c.toList.drop (off + v.cells.size)).toArray E (0, 0))).map (·.1) = F.map (·.1) := by
      rw [List.map_set]
      refine List.ext_getElem? fun n => ?_
      rw [List.getElem?_set]
      split
      · rename_i e
        subst e
        simp [hjl, hje]
      · rfl
    have hnd : (F.map (·.1)).Nodup := by
      have h1 := (keys_perm (perm_of_get hi)).nodup_iff.1 hw.nodup
      rw [keys_append] at h1
      have h2 := (List.nodup_append.1 h1).1
      simpa [keys] using h2
    refine hw.set hi rfl rfl rfl (by simp) (fun n hn hnk => ?_) (fun p hp => ?_) (by rw [hkeys]; exact hnd) (fun n hn => .inl (by rw [hkeys] at hn; exact hn))
    · refine setRow_other w b n _ (fun e => hnk ?_)
      subst e
      exact List.mem_map.2 ⟨_, List.mem_of_getElem? hj, rfl⟩
    · obtain ⟨n, hn, hpe⟩ := List.getElem_of_mem hp
      by_cases e : n = j
      · subst e
        rw [List.getElem_set_self] at hpe
        subst hpe
        exact setRow_heap w b c _ E (0, 0) hheap
      · rw [List.getElem_set_ne (fun h => e h.symm)] at hpe
        have hpF : p ∈ F := by rw [← hpe]; exact List.getElem_mem _
        rw [setRow_other w b p.1 _ ?_]
        · exact hF p hpF
        · intro e2
          have hnl : n < F.length := by simpa using hn
          have h1 : (F.map (·.1))[n]'(by simpa using hnl) = b := by simp [hpe, e2]
          have h2 : (F.map (·.1))[j]'(by simpa using hjl) = b := by simp [hje]
          exact e ((List.getElem_inj hnd).1 (h1.trans h2.symm))

/-- a store of one cell -/
theorem Wpl.store {x y : Operand} {T E : TypeId} {i j b off : Nat} {F : Frag} {c : Array Value} {v : Value} {z : Value} {by_ : Nat}
    (hT : ElemT C.P T false 1 z by_) (hx : f.ev x = .pointer (some ⟨b, off, none⟩)) (hy : f.ev y = v) (hi : M[i]? = some F) (hj : F[j]? = some (b, .cells c E (0, 0))) (hone : v.oneCell' = true)
    (hb : off < c.size)
    (k : Wpl .seq C ops rest Q f R (M.set i (F.set j (b, .cells (c.toList.set off v).toArray E (0, 0))))) :
    Wpl .seq C ops (⟨none, .store T x y, ty, pos, af, none⟩ :: rest) Q f R M := by
  have hcs : v.cells = #[v] := by cases v <;> first | rfl | simp [Value.oneCell'] at hone
  refine Wpl.storeCells (c := c) (E := E) hx hy (fun w => by rw [hcs]; exact hT.run_size w) hi hj (by rw [hcs]; intro u hu; simp at hu; subst hu; exact hone) (by rw [hcs]; simp; omega) ?_
  have : (c.toList.take off ++ v.cells.toList ++ c.toList.drop (off + v.cells.size)) = c.toList.set off v := by
    rw [hcs, List.set_eq_take_append_cons_drop, if_pos (by simpa using hb)]
    simp
  rw [this]
  exact k

end rules
end Go.SL
namespace Go.SL
open Go.RowKit

/-! picking some of the changeable pieces -/
def Sel (M M' : List Frag) : Prop := ∃ l, M.Perm (M' ++ l)
theorem Sel.refl (M : List Frag) : Sel M M := ⟨[], by simp⟩
theorem Sel.nil (M : List Frag) : Sel M [] := ⟨M, by simp⟩
theorem Sel.tail (F : Frag) (M : List Frag) : Sel (F :: M) M := ⟨[F], List.perm_append_comm (l₁ := [F]) (l₂ := M)⟩
theorem Sel.trans {A B D : List Frag} (h : Sel A B) (k : Sel B D) : Sel A D := by
  obtain ⟨l, hl⟩ := h
  obtain ⟨m, hm⟩ := k
  exact ⟨m ++ l, hl.trans (by rw [← List.append_assoc]; exact hm.append_right l)⟩
theorem Sat.sel {C : Cx} {R M M' : List Frag} {w : World} (h : Sat C R M w) (hs : Sel M M') : Sat C R M' w := by
  obtain ⟨l, hl⟩ := hs
  exact (h.perm hl).drop (List.sublist_append_left _ _)
/-- by places: the pieces at these places, in this order -/
theorem Sel.cons {M : List Frag} {F : Frag} {M' : List Frag} (i : Nat) (hi : M[i]? = some F) (h : Sel (M.eraseIdx i) M') : Sel M (F :: M') := by
  obtain ⟨l, hl⟩ := h
  exact ⟨l, (perm_of_get hi).trans (List.Perm.cons F hl)⟩

/-! contracts -/
def Ctr (P : Program) (g : FuncId) (args : List Value) (R M : List Frag) (post : Value → List Frag → Prop) : Prop :=
  (∃ fn, P.funcs[g]? = some fn ∧ (fn.name == "runtime.NumGoroutine") = false ∧ fn.body.isNone = false) ∧
  ∀ w, (∀ F ∈ R, F.In w) → (∀ F ∈ M, F.In w) → (keys M).Nodup → (∀ F ∈ R, ∀ p ∈ F, p.1 ∉ keys M) →
    Calls P g args.toArray w fun e w' => ∃ v M', e = .returned v ∧ post v M' ∧ Sat ⟨P, 0, w, keys M⟩ R M' w'

theorem Ctr.mono {P : Program} {g : FuncId} {args : List Value} {R M : List Frag} {post post' : Value → List Frag → Prop} (h : Ctr P g args R M post) (hp : ∀ v M', post v M' → post' v M') : Ctr P g args R M post' :=
  ⟨h.1, fun w h1 h2 h3 h4 => (h.2 w h1 h2 h3 h4).mono fun e w' ⟨v, M', e1, e2, e3⟩ => ⟨v, M', e1, hp _ _ e2, e3⟩⟩

/-- a contract of a function that leaves nothing behind -/
def PSpec (P : Program) (g : FuncId) (args : List Value) (R : List Frag) (v0 : Value) : Prop := Ctr P g args R [] fun v M' => v = v0 ∧ M' = []

def argsEnv : Nat → List Value → Env → Env
  | _, [], g => g
  | i, v :: l, g => (argsEnv (i + 1) l g).upd i v

def retVal : List Value → Value
  | [v] => v
  | vs => .tuple vs.toArray

def CellVal (P : Program) (T : TypeId) (c : Array Value) (off : Nat) (v : Value) : Prop :=
  (∃ z by_, ElemT P T false 1 z by_ ∧ c.toList[off]? = some v) ∨ (∃ n z by_ cs, ElemT P T true n z by_ ∧ cs.length = n ∧ (c.toList.drop off).take n = cs ∧ v = .agg cs.toArray)

def ResV (P : Program) (f : Env) (R M : List Frag) : List ResultVar → List Value → Prop
  | [], [] => True
  | .tmp t :: rs, v :: vs => f t = v ∧ ResV P f R M rs vs
  | .cell a T :: rs, v :: vs => (∃ b off c E fz, f a = .pointer (some ⟨b, off, none⟩) ∧ Known R M b (.cells c E fz) ∧ CellVal P T c off v) ∧ ResV P f R M rs vs
  | _, _ => False

@[reducible] def retQ (P : Program) (rs : List ResultVar) (R0 : List Frag) (post : Value → List Frag → Prop) : Exit → Env → List Frag → List Frag → Prop
  | .normal, f, R, M => ∃ vs M', ResV P f R M rs vs ∧ Sel M M' ∧ (∀ F ∈ R0, F ∈ R) ∧ post (retVal vs) M'
  | .ret, f, R, M => ∃ vs M', ResV P f R M rs vs ∧ Sel M M' ∧ (∀ F ∈ R0, F ∈ R) ∧ post (retVal vs) M'
  | _, _, _, _ => False

theorem cellVal_run {P : Program} {T : TypeId} {c : Array Value} {b off : Nat} {v : Value} {w : World} {E : TypeId} {fz : Nat × Nat} (h : CellVal P T c off v) (hb : w.heap[b]? = some (.cells c E fz)) :
    (loadVar T ⟨b, off, none⟩).run P w = .ok v w := by
  rcases h with ⟨z, by_, hT, hc⟩ | ⟨n, z, by_, cs, hT, hl, hc, rfl⟩
  · have h2 : w.cell? ⟨b, off, none⟩ = some v := by rw [cell_of_row w b off c E fz hb]; simpa using hc
    simp [loadVar, hT.run_agg, h2]
  · have h2 : (loadCells ⟨b, off, none⟩ cs.length).run P w = .ok cs.toArray w := run_loadCells_list w _ cs (fun j v hj => by
      rw [addr_add, cell_of_row w b _ c E fz hb]
      have hlt := (List.getElem?_eq_some_iff.1 hj).1
      rw [← hc, List.getElem?_take, if_pos (by omega), List.getElem?_drop] at hj
      simpa using hj)
    rw [hl] at h2
    simp [loadVar, hT.run_agg, hT.run_size, h2]

def resFn (tmps : Array Value) : ResultVar → Sem Value
  | .tmp t => pure (tmps.getD t undef)
  | .cell a t => do loadVar t (← asAddr (tmps.getD a undef))
theorem results_eq (fn : Func) (tmps : Array Value) : results fn tmps = (do
    let vs ← fn.results.mapM (resFn tmps)
    pure (if h : vs.size = 1 then vs[0] else .tuple vs)) := by
  unfold results
  congr 1

theorem resV_run {C : Cx} {f : Env} {R M : List Frag} {a : Act} {w : World} (ha : Fr C.n f a) (hw : Sat C R M w) : ∀ (rs : List ResultVar) (vs : List Value), ResV C.P f R M rs vs →
    (rs.mapM (m := Sem) (resFn a.tmps)).run C.P w = .ok vs w
  | [], [], _ => by simp
  | .tmp t :: rs, v :: vs, h => by
    have ih := resV_run ha hw rs vs h.2
    rw [List.mapM_cons]
    have e : resFn a.tmps (.tmp t) = pure v := by
      show pure (a.tmps.getD t undef) = _
      rw [ha.get t, h.1]
    rw [e]
    simp only [Sem.run_bind, Sem.run_pure, Result.andThen_ok, ih]
  | .cell p T :: rs, v :: vs, h => by
    have ih := resV_run ha hw rs vs h.2
    obtain ⟨b, off, c, E, fz, h1, h2, h3⟩ := h.1
    have hl := cellVal_run (w := w) h3 (h2.heap hw)
    have hg := ha.get p
    rw [h1] at hg
    rw [List.mapM_cons]
    have e : resFn a.tmps (.cell p T) = loadVar T ⟨b, off, none⟩ := by
      show (do loadVar T (← asAddr (a.tmps.getD p undef))) = _
      rw [hg]
      rfl
    rw [e]
    simp only [Sem.run_bind, Sem.run_pure, Result.andThen_ok, hl, ih]
  | [], _ :: _, h => h.elim
  | .tmp _ :: _, [], h => h.elim
  | .cell _ _ :: _, [], h => h.elim

theorem retVal_run (vs : List Value) : (if h : vs.toArray.size = 1 then vs.toArray[0] else Value.tuple vs.toArray) = retVal vs := by
  match vs with
  | [] => rfl
  | [v] => rfl
  | a :: b :: l => simp [retVal]

theorem results_run {C : Cx} {f : Env} {R M : List Frag} {a : Act} {w : World} {fn : Func} (ha : Fr C.n f a) (hw : Sat C R M w) {vs : List Value} (h : ResV C.P f R M fn.results.toList vs) :
    (results fn a.tmps).run C.P w = .ok (retVal vs) w := by
  have h1 := resV_run ha hw _ _ h
  rw [results_eq, Array.mapM_eq_mapM_toList]
  simp only [Sem.run_bind, Sem.run_map]
  rw [h1]
  simp only [Result.andThen_ok, Sem.run_pure]
  rw [retVal_run]

theorem argsEnv_get : ∀ (l : List Value) (i : Nat) (g : Env) (t : Nat), argsEnv i l g t = if i ≤ t ∧ t < i + l.length then l.getD (t - i) undef else g t
  | [], i, g, t => by simp [argsEnv]; omega
  | v :: l, i, g, t => by
    simp only [argsEnv, Env.upd]
    by_cases e : t = i
    · subst e
      rw [Nat.beq_refl]
      simp
    · have hb : Nat.beq t i = false := by
        cases hh : Nat.beq t i with
        | false => rfl
        | true => exact absurd (Nat.eq_of_beq_eq_true hh) e
      rw [hb]
      simp only [cond_false]
      rw [argsEnv_get l (i + 1) g t]
      simp only [List.length_cons]
      by_cases h : i + 1 ≤ t ∧ t < i + 1 + l.length
      · rw [if_pos h, if_pos (by omega)]
        have : t - i = (t - (i + 1)) + 1 := by omega
        rw [this, List.getD_cons_succ]
      · rw [if_neg h, if_neg (by omega)]

theorem fr_start (args : List Value) (n : Nat) (h : args.length ≤ n) : Fr n (argsEnv 0 args (fun _ => undef)) { tmps := args.toArray ++ Array.replicate (n - args.toArray.size) undef, defers := [] } := by
  refine ⟨by simp; omega, fun t => ?_, rfl⟩
  rw [argsEnv_get]
  simp only [Nat.zero_le, true_and, Nat.zero_add, Nat.sub_zero, Array.getD_eq_getD_getElem?]
  by_cases ht : t < args.length
  · rw [if_pos ht, Array.getElem?_append_left (by simpa using ht)]
    simp [List.getD, ht]
  · rw [if_neg ht, Array.getElem?_append_right (by simpa using ht)]
    simp only [List.size_toArray, Array.getElem?_replicate]
    split <;> rfl

theorem Ctr.intro {P : Program} {g : FuncId} {fn : Func} {c : Code} {args : List Value} {R M : List Frag} {post : Value → List Frag → Prop} {n : Nat} (hf : P.funcs[g]? = some fn) (hn : (fn.name == "runtime.NumGoroutine") = false) (hb : fn.body = some c) (hnt : fn.ntmps = n) (hl : Nat.ble args.length n = true)
    (h : ∀ W, Wpc ⟨P, n, W, keys M⟩ c (retQ P fn.results.toList R post) (argsEnv 0 args (fun _ => undef)) R M) : Ctr P g args R M post := by
  subst hnt
  refine ⟨⟨fn, hf, hn, by rw [hb]; rfl⟩, fun w h1 h2 h3 h4 => ?_⟩
  refine calls_of_wp hf hb ?_
  have hs : Sat ⟨P, fn.ntmps, w, keys M⟩ R M w := ⟨rfl, rfl, rfl, Nat.le_refl _, fun _ _ _ => rfl, h1, h2, h3, h4, fun k hk => .inl hk⟩
  refine Code.wp_mono ?_ (h w _ w (fr_start args fn.ntmps (Nat.le_of_ble_eq_true hl)) hs)
  rintro e a w' ⟨f, R', M', ha, hw, hq⟩
  cases e with
  | normal =>
    obtain ⟨vs, M2, q1, q2, q3, q4⟩ := hq
    refine ⟨ha.defers, retVal vs, results_run ha hw q1, retVal vs, M2, rfl, q4, ?_⟩
    have := (hw.sel q2).weakR q3
    exact ⟨this.os, this.tape, this.output, this.size, this.keep, this.ro, this.mu, this.nodup, this.apart, this.dirty⟩
  | ret =>
    obtain ⟨vs, M2, q1, q2, q3, q4⟩ := hq
    refine ⟨ha.defers, retVal vs, results_run ha hw q1, retVal vs, M2, rfl, q4, ?_⟩
    have := (hw.sel q2).weakR q3
    exact ⟨this.os, this.tape, this.output, this.size, this.keep, this.ro, this.mu, this.nodup, this.apart, this.dirty⟩
  | exit id => exact hq.elim
  | goto l => exact hq.elim
  | panic ch => exact hq.elim
  | outgrown => exact hq.elim

theorem run_callFunc {P : Program} {g : FuncId} (h : ∃ fn, P.funcs[g]? = some fn ∧ (fn.name == "runtime.NumGoroutine") = false ∧ fn.body.isNone = false) (args : Array Value) (w : World) : (callFunc g args).run P w = .ok (.enter g args) w := by
  obtain ⟨fn, h1, h2, h3⟩ := h
  simp only [callFunc, Sem.run_bind, run_program, Result.andThen_ok, h1]
  rw [h2, h3]
  simp

section rules
variable {q : Md} {C : Cx} {ops : Array Oper} {rest : List Oper} {Q : Exit → Env → List Frag → List Frag → Prop} {f : Env} {R M : List Frag}
variable {d : Nat} {ty : TypeId} {pos : String} {af : Array Edge}

theorem run_call {g : FuncId} {x : Operand} {as : Array Operand} {ats : Array TypeId} {fs cs args : List Value} {dst : Option Tmp} (hfn : ∃ fn, C.P.funcs[g]? = some fn ∧ (fn.name == "runtime.NumGoroutine") = false ∧ fn.body.isNone = false)
    (hx : f.ev x = .func (.func g) fs.toArray cs.toArray) (hargs : fs ++ as.toList.map f.ev ++ cs = args) (w : World) :
    (execOp f.ev ⟨dst, .call ⟨.value x, as, ats⟩, ty, pos, af, none⟩).run C.P w = .ok (.enter g args.toArray) w := by
  have e : as.map f.ev = (as.toList.map f.ev).toArray := by cases as; simp
  have e2 : (fs.toArray ++ as.map f.ev) ++ cs.toArray = args.toArray := by rw [e, ← hargs]; simp
  simp only [execOp, resolve, Sem.run_bind, hx, Deferred.ofValue, Sem.run_pure, Result.andThen_ok, invoke]
  rw [e2]
  exact run_callFunc hfn _ w

theorem Wpl.call {g : FuncId} {x : Operand} {as : Array Operand} {ats : Array TypeId} {fs cs args : List Value} {R1 M1 Mr : List Frag} {post : Value → List Frag → Prop} (hd : Nat.blt d C.n = true)
    (hx : f.ev x = .func (.func g) fs.toArray cs.toArray) (hargs : fs ++ as.toList.map f.ev ++ cs = args) (hspec : Ctr C.P g args R1 M1 post) (hM : M.Perm (M1 ++ Mr)) (hR : ∀ F ∈ R1, F ∈ R ∨ F ∈ Mr)
    (k : ∀ v M', post v M' → Wpl .seq C ops rest Q (f.upd d v) R (M' ++ Mr)) : Wpl .seq C ops (⟨some d, .call ⟨.value x, as, ats⟩, ty, pos, af, none⟩ :: rest) Q f R M := by
  refine Wpl.enter rfl hd (g := g) (args := args.toArray) fun w hw0 => ⟨run_call hspec.1 hx hargs w, ?_⟩
  have hw := hw0.perm hM
  have hn := hw.nodup
  rw [keys_append] at hn
  have hn2 := List.nodup_append.1 hn
  refine (hspec.2 w (fun F hF => ?_) (fun F hF => hw.mu F (List.mem_append_left _ hF)) hn2.1 (fun F hF p hp hk => ?_)).mono ?_
  · rcases hR F hF with h | h
    · exact hw.ro F h
    · exact hw.mu F (List.mem_append_right _ h)
  · rcases hR F hF with h | h
    · exact hw.apart F h p hp (by rw [keys_append]; exact List.mem_append_left _ hk)
    · exact hn2.2.2 p.1 hk p.1 (mem_keys h hp) rfl
  · rintro e w' ⟨v, M', rfl, hpost, hs⟩
    refine ⟨v, R, M' ++ Mr, rfl, ?_, k v M' hpost⟩
    have hs' : Sat C ([] ++ R) (M' ++ Mr) w' := hw.change hs.os hs.tape hs.output hs.size (fun k hk hk1 => hs.keep k hk hk1) hs.mu hs.nodup hs.dirty (fun F hF => by cases hF) (fun F hF => by cases hF)
    exact hs'

theorem Wpl.call0 {g : FuncId} {x : Operand} {as : Array Operand} {ats : Array TypeId} {fs cs args : List Value} {R1 : List Frag} {post : Value → List Frag → Prop} (hd : Nat.blt d C.n = true)
    (hx : f.ev x = .func (.func g) fs.toArray cs.toArray) (hargs : fs ++ as.toList.map f.ev ++ cs = args) (hspec : Ctr C.P g args R1 [] post) (hR : ∀ F ∈ R1, HasF R M F)
    (k : ∀ v M', post v M' → Wpl .seq C ops rest Q (f.upd d v) R (M' ++ M)) : Wpl .seq C ops (⟨some d, .call ⟨.value x, as, ats⟩, ty, pos, af, none⟩ :: rest) Q f R M :=
  Wpl.call (M1 := []) (Mr := M) hd hx hargs hspec (by simp) hR k

theorem Wpl.callAt (i : Nat) {g : FuncId} {x : Operand} {as : Array Operand} {ats : Array TypeId} {fs cs args : List Value} {R1 : List Frag} {F1 : Frag} {post : Value → List Frag → Prop} (hd : Nat.blt d C.n = true)
    (hx : f.ev x = .func (.func g) fs.toArray cs.toArray) (hargs : fs ++ as.toList.map f.ev ++ cs = args) (hspec : Ctr C.P g args R1 [F1] post) (hi : M[i]? = some F1) (hR : ∀ F ∈ R1, HasF R (M.eraseIdx i) F)
    (k : ∀ v M', post v M' → Wpl .seq C ops rest Q (f.upd d v) R (M' ++ M.eraseIdx i)) : Wpl .seq C ops (⟨some d, .call ⟨.value x, as, ats⟩, ty, pos, af, none⟩ :: rest) Q f R M :=
  Wpl.call (M1 := [F1]) (Mr := M.eraseIdx i) hd hx hargs hspec (perm_of_get hi) hR k

/-- a call that leaves nothing behind: in every region -/
theorem Wpl.callP {g : FuncId} {x : Operand} {as : Array Operand} {ats : Array TypeId} {fs cs args : List Value} {R1 : List Frag} {v : Value} (hq : q.calls = true) (hd : Nat.blt d C.n = true)
    (hx : f.ev x = .func (.func g) fs.toArray cs.toArray) (hargs : fs ++ as.toList.map f.ev ++ cs = args) (hspec : PSpec C.P g args R1 v) (hR : ∀ F ∈ R1, HasF R M F)
    (k : Wpl q C ops rest Q (f.upd d v) R M) : Wpl q C ops (⟨some d, .call ⟨.value x, as, ats⟩, ty, pos, af, none⟩ :: rest) Q f R M := by
  refine Wpl.enterQ hq rfl hd (g := g) (args := args.toArray) v (fun w hw => ⟨run_call hspec.1 hx hargs w, ?_⟩) k
  refine (hspec.2 w (fun F hF => ?_) (fun F hF => by cases hF) (by simp [keys]) (fun F hF p hp => by simp [keys])).mono ?_
  · rcases hR F hF with h | h
    · exact hw.ro F h
    · exact hw.mu F h
  · rintro e w' ⟨v', M', rfl, ⟨rfl, rfl⟩, hs⟩
    refine ⟨rfl, ?_⟩
    have hw1 : Sat C R ([] ++ M) w := hw
    have hs' : Sat C ([] ++ R) ([] ++ M) w' := hw1.change hs.os hs.tape hs.output hs.size (fun k hk hk1 => hs.keep k hk hk1) hs.mu hs.nodup hs.dirty (fun F hF => by cases hF) (fun F hF => by cases hF)
    exact hs'

theorem Wpl.sel {M' : List Frag} (hp : Sel M M') (k : Wpl .seq C ops rest Q f R M') : Wpl .seq C ops rest Q f R M := fun a w ha hw => k a w ha (hw.sel hp)
theorem Wpc.sel {c : Code} {M' : List Frag} (hp : Sel M M') (k : Wpc C c Q f R M') : Wpc C c Q f R M := fun a w ha hw => k a w ha (hw.sel hp)

/-- two read-only pieces as one -/
theorem Wpc.joinR {c : Code} (F1 F2 : Frag) (h1 : F1 ∈ R) (h2 : F2 ∈ R) (k : Wpc C c Q f ((F1 ++ F2) :: R) M) : Wpc C c Q f R M := fun a w ha hw =>
  k a w ha ⟨hw.os, hw.tape, hw.output, hw.size, hw.keep, fun F hF p hp => by
    rcases List.mem_cons.1 hF with rfl | hF
    · rcases List.mem_append.1 hp with hp | hp
      · exact hw.ro _ h1 p hp
      · exact hw.ro _ h2 p hp
    · exact hw.ro F hF p hp, hw.mu, hw.nodup, fun F hF p hp => by
    rcases List.mem_cons.1 hF with rfl | hF
    · rcases List.mem_append.1 hp with hp | hp
      · exact hw.apart _ h1 p hp
      · exact hw.apart _ h2 p hp
    · exact hw.apart F hF p hp, hw.dirty⟩
theorem Wpl.joinR (F1 F2 : Frag) (h1 : F1 ∈ R) (h2 : F2 ∈ R) (k : Wpl .seq C ops rest Q f ((F1 ++ F2) :: R) M) : Wpl .seq C ops rest Q f R M := fun a w ha hw =>
  k a w ha ⟨hw.os, hw.tape, hw.output, hw.size, hw.keep, fun F hF p hp => by
    rcases List.mem_cons.1 hF with rfl | hF
    · rcases List.mem_append.1 hp with hp | hp
      · exact hw.ro _ h1 p hp
      · exact hw.ro _ h2 p hp
    · exact hw.ro F hF p hp, hw.mu, hw.nodup, fun F hF p hp => by
    rcases List.mem_cons.1 hF with rfl | hF
    · rcases List.mem_append.1 hp with hp | hp
      · exact hw.apart _ h1 p hp
      · exact hw.apart _ h2 p hp
    · exact hw.apart F hF p hp, hw.dirty⟩

/-- ways that meet behind a piece of code -/
@[reducible] def joinQ {ι : Type} (I : ι → Prop) (L : ι → List (Nat × Value)) (Ms : ι → List Frag) (R : List Frag) (Q : Exit → Env → List Frag → List Frag → Prop) : Exit → Env → List Frag → List Frag → Prop
  | .normal, f', R', M' => ∃ i, I i ∧ Agree f' (L i) ∧ Sel M' (Ms i) ∧ (∀ F ∈ R, F ∈ R')
  | e, f', R', M' => Q e f' R' M'
theorem Wpc.join {c : Code} {ι : Type} (I : ι → Prop) (L : ι → List (Nat × Value)) (Ms : ι → List Frag) (h : Wpc C c (joinQ I L Ms R Q) f R M) (k : ∀ i g, I i → Q .normal (Env.mk (L i) g) R (Ms i)) : Wpc C c Q f R M := by
  intro a w ha hw
  refine Code.wp_mono ?_ (h a w ha hw)
  rintro e a' w' ⟨f', R', M', q1, q2, q3⟩
  cases e with
  | normal =>
    obtain ⟨i, h1, h2, h3, h4⟩ := q3
    exact ⟨Env.mk (L i) f', R, Ms i, by rw [h2.mk]; exact q1, (q2.sel h3).weakR h4, k i f' h1⟩
  | _ => exact ⟨f', R', M', q1, q2, q3⟩

/-! loops -/
theorem Wpc.loop {c : Code} {ι : Type} (I : ι → Prop) (L : ι → List (Nat × Value)) (Ms : ι → List Frag) (μ : ι → Nat) (i0 : ι) (h0 : I i0) (hL : Agree f (L i0)) (hM : Sel M (Ms i0))
    (step : ∀ i g, I i → Wpc C c (thenQ (fun f' R' M' => ∃ j, I j ∧ μ j < μ i ∧ Agree f' (L j) ∧ Sel M' (Ms j) ∧ (∀ F ∈ R, F ∈ R')) Q) (Env.mk (L i) g) R (Ms i)) :
    Wpc C (.loop c) Q f R M := by
  intro a w ha hw b k cs
  have key : ∀ n i g a w, μ i = n → I i → Fr C.n (Env.mk (L i) g) a → Sat C R (Ms i) w →
      ∃ e a' w', liftQ C Q e a' w' ∧ Arrives C.P (lone (b.at a (.code c :: .inLoop c :: k)) cs w) b k cs e a' w' := by
    intro n
    induction n using Nat.strongRecOn with
    | _ n ih =>
      intro i g a w hn hI ha hw
      obtain ⟨e, a₁, w₁, ⟨f', R', M', q1, q2, q3⟩, harr⟩ := step i g hI a w ha hw b (.inLoop c :: k) cs
      cases e with
      | normal =>
        obtain ⟨j, j1, j2, j3, j4, j5⟩ := q3
        obtain ⟨e₂, a₂, w₂, hq₂, harr₂⟩ := ih (μ j) (hn ▸ j2) j f' a₁ w₁ rfl j1 (by rw [j3.mk]; exact q1) ((q2.sel j4).weakR j5)
        exact ⟨e₂, a₂, w₂, hq₂, .of_steps (Steps.trans harr (.one step_inLoop)) harr₂⟩
      | exit id => exact ⟨_, a₁, w₁, ⟨f', R', M', q1, q2, q3⟩, .pass (x := .inLoop c) rfl (fun _ _ => .inl (by simp)) harr⟩
      | goto l => exact ⟨_, a₁, w₁, ⟨f', R', M', q1, q2, q3⟩, .pass (x := .inLoop c) rfl (fun _ _ => .inl (by simp)) harr⟩
      | ret => exact ⟨_, a₁, w₁, ⟨f', R', M', q1, q2, q3⟩, .pass (x := .inLoop c) rfl (fun _ _ => .inl (by simp)) harr⟩
      | panic ch => exact ⟨_, a₁, w₁, ⟨f', R', M', q1, q2, q3⟩, .pass (x := .inLoop c) rfl (fun _ _ => .inl (by simp)) harr⟩
      | outgrown => exact ⟨_, a₁, w₁, ⟨f', R', M', q1, q2, q3⟩, .pass (x := .inLoop c) rfl (fun _ _ => .inl (by simp)) harr⟩
  obtain ⟨e, a', w', hq, harr⟩ := key _ i0 f a w rfl h0 (by rw [hL.mk]; exact ha) (hw.sel hM)
  exact ⟨e, a', w', hq, .of_steps (.one step_loop) harr⟩

end rules
end Go.SL
namespace Go.SL
open Go.RowKit

/-! facts on types, found by their numbers -/
class SliceT (P : Program) (T : TypeId) (E : outParam TypeId) : Prop where h : P.underlying T = some (.slice E)
class IntT (P : Program) (T : TypeId) (k : outParam IntKind) : Prop where h : P.underlying T = some (.int k)
class ConcT (P : Program) (T : TypeId) : Prop where h : ∃ D, P.underlying T = some D ∧ ∀ ms, D ≠ .interface ms
class CellT (P : Program) (E : TypeId) (z : outParam Value) (by_ : outParam Nat) : Prop where h : ElemT P E false 1 z by_
class AggT (P : Program) (E : TypeId) (k : outParam Nat) (z : outParam Value) (by_ : outParam Nat) : Prop where h : ElemT P E true k z by_
class AnyT (P : Program) (E : TypeId) (k : outParam Nat) (z : outParam Value) (by_ : outParam Nat) : Prop where h : ∃ agg, ElemT P E agg k z by_
class FieldT (P : Program) (S : TypeId) (i : Nat) (o : outParam Nat) : Prop where
  h : ∀ b off w, (Instr.fieldAt S (.pointer (some ⟨b, off, none⟩)) i).run P w = .ok (.pointer (some ⟨b, off + o, none⟩)) w
instance {P E z by_} [h : CellT P E z by_] : AnyT P E 1 z by_ := ⟨_, h.h⟩
instance {P E k z by_} [h : AggT P E k z by_] : AnyT P E k z by_ := ⟨_, h.h⟩

theorem FieldT.of {P : Program} {S i o ft sz : Nat} {fields : Array Field} {fd : Field} (h : P.underlying S = some (.struct fields)) (hf : fields[i]? = some fd) (ho : fd.offset = o) (hs : ∀ w, (sizeOf fd.type).run P w = .ok sz w) (hz : Nat.beq sz 0 = false) : FieldT P S i o := ⟨fun b off w => by
  have hz' : ¬ sz = 0 := fun e => by subst e; cases hz
  simp only [Instr.fieldAt, Sem.run_bind, run_underlying h, Result.andThen_ok, hf, Instr.sureAddr, Sem.run_pure, fieldPlace, hs, hz', if_false, addr_add, ho]⟩

/-- lists as values -/
def ints (k : IntKind) (l : List Int) : List Value := l.map (Value.int k)
def flat {α : Type} (g : α → List Value) (l : List α) : List Value := l.flatMap g
theorem ints_length (k : IntKind) (l : List Int) : (ints k l).length = l.length := by simp [ints]
theorem flat_length {α : Type} {g : α → List Value} {k : Nat} (hg : ∀ a, (g a).length = k) (l : List α) : (flat g l).length = l.length * k := by
  induction l with
  | nil => simp [flat]
  | cons a l ih => simp only [flat, List.flatMap_cons, List.length_append, hg, List.length_cons] at *; rw [ih, Nat.add_mul]; omega
theorem flat_drop {α : Type} {g : α → List Value} {k : Nat} (hg : ∀ a, (g a).length = k) : ∀ (l : List α) (m : Nat), (flat g l).drop (m * k) = flat g (l.drop m)
  | [], m => by simp [flat]
  | a :: l, 0 => by simp
  | a :: l, m + 1 => by
    have e : (m + 1) * k = (g a).length + m * k := by rw [hg, Nat.add_mul]; omega
    simp only [flat, List.flatMap_cons, List.drop_succ_cons] at *
    rw [e, List.drop_append]
    simp only [Nat.add_sub_cancel_left]
    rw [List.drop_of_length_le (by omega), List.nil_append]
    exact flat_drop hg l m
theorem flat_take {α : Type} {g : α → List Value} {k : Nat} (hg : ∀ a, (g a).length = k) : ∀ (l : List α) (m : Nat), (flat g l).take (m * k) = flat g (l.take m)
  | [], m => by simp [flat]
  | a :: l, 0 => by simp [flat]
  | a :: l, m + 1 => by
    have e : (m + 1) * k = (g a).length + m * k := by rw [hg, Nat.add_mul]; omega
    simp only [flat, List.flatMap_cons, List.take_succ_cons] at *
    rw [e, List.take_append]
    simp only [Nat.add_sub_cancel_left]
    rw [List.take_of_length_le (by omega)]
    congr 1
    exact flat_take hg l m
theorem flat_at {α : Type} {g : α → List Value} {k : Nat} (hg : ∀ a, (g a).length = k) (l : List α) (m : Nat) (h : m < l.length) : ((flat g l).drop (m * k)).take k = g l[m] := by
  rw [flat_drop hg, List.drop_eq_getElem_cons h]
  simp only [flat, List.flatMap_cons]
  rw [← hg l[m], List.take_left]

section rules
variable {q : Md} {C : Cx} {ops : Array Oper} {rest : List Oper} {Q : Exit → Env → List Frag → List Frag → Prop} {f : Env} {R M : List Frag}
variable {d : Nat} {ty : TypeId} {pos : String} {af : Array Edge}

theorem Wpl.len {x : Operand} {T E : TypeId} [hT : SliceT C.P T E] {a : Option Addr} {n c : Nat} (hd : Nat.blt d C.n = true) (hx : f.ev x = .slice a n c)
    (k1 : Wpl q C ops rest Q (f.upd d (.int .i64 (n : Int))) R M) : Wpl q C ops (⟨some d, .call ⟨.builtin .len, #[x], #[T]⟩, ty, pos, af, none⟩ :: rest) Q f R M :=
  Wpl.lenSlice hd hT.h hx k1
/-- of a slice that is known as a row alone -/
theorem Wpl.lenRow {x : Operand} {T E : TypeId} [hT : SliceT C.P T E] {F : Frag} {kk n : Nat} {v : Value} {xs : List Value} (hd : Nat.blt d C.n = true) (hx : f.ev x = v) (hr : Row F kk v n xs)
    (k1 : Wpl q C ops rest Q (f.upd d (.int .i64 (n : Int))) R M) : Wpl q C ops (⟨some d, .call ⟨.builtin .len, #[x], #[T]⟩, ty, pos, af, none⟩ :: rest) Q f R M := by
  obtain ⟨a, c, rfl⟩ := hr.len
  exact Wpl.lenSlice hd hT.h hx k1

theorem Wpl.iface {x : Operand} {T : TypeId} [hT : ConcT C.P T] {v : Value} (hd : Nat.blt d C.n = true) (hx : f.ev x = v)
    (k1 : Wpl q C ops rest Q (f.upd d (.iface T v)) R M) : Wpl q C ops (⟨some d, .makeInterface T x, ty, pos, af, none⟩ :: rest) Q f R M := by
  obtain ⟨D, h1, h2⟩ := hT.h
  exact Wpl.makeInterface hd h1 h2 (by rw [hx]; exact k1)

theorem Wpl.i64 {x : Operand} {s t : TypeId} {k2 : IntKind} [hs : IntT C.P s k2] [ht : IntT C.P t .i64] {m : Int} (hd : Nat.blt d C.n = true) (hx : f.ev x = .int k2 m) (hb : -9223372036854775808 ≤ m ∧ m ≤ 9223372036854775807)
    (k1 : Wpl q C ops rest Q (f.upd d (.int .i64 m)) R M) : Wpl q C ops (⟨some d, .convert s t x, ty, pos, af, none⟩ :: rest) Q f R M := Wpl.toI64 hd hs.h ht.h hx hb k1
theorem Wpl.u8 {x : Operand} {s t : TypeId} {k2 : IntKind} [hs : IntT C.P s k2] [ht : IntT C.P t .u8] {m : Int} (hd : Nat.blt d C.n = true) (hx : f.ev x = .int k2 m)
    (k1 : Wpl q C ops rest Q (f.upd d (.int .u8 (m % 256))) R M) : Wpl q C ops (⟨some d, .convert s t x, ty, pos, af, none⟩ :: rest) Q f R M := Wpl.toU8 hd hs.h ht.h hx k1
theorem Wpl.u8in {x : Operand} {s t : TypeId} {k2 : IntKind} [hs : IntT C.P s k2] [ht : IntT C.P t .u8] {m : Int} (hd : Nat.blt d C.n = true) (hx : f.ev x = .int k2 m) (hb : 0 ≤ m ∧ m ≤ 255)
    (k1 : Wpl q C ops rest Q (f.upd d (.int .u8 m)) R M) : Wpl q C ops (⟨some d, .convert s t x, ty, pos, af, none⟩ :: rest) Q f R M :=
  Wpl.u8 hd hx (by rw [Int.emod_eq_of_lt hb.1 (by omega)]; exact k1)

/-! reading a slice -/
theorem Wpl.idx {s i : Operand} {d2 : Nat} {T E ty2 : TypeId} {pos2 : String} {af2 : Array Edge} {by_ : Nat} {z : Value} [hT : SliceT C.P T E] [hE : CellT C.P E z by_] {F : Frag} {v : Value} {ki k : IntKind} {m : Int} {l : List Int} {n : Nat}
    (hd : Nat.blt d C.n = true) (hd2 : Nat.blt d2 C.n = true) (hs : f.ev s = v) (hi : f.ev i = .int ki m) (hrow : Row F 1 v n (ints k l)) (hF : HasF R M F) (h0 : 0 ≤ m) (h1 : m < l.length)
    (k1 : ∀ p (hm : m.toNat < l.length), Wpl q C ops rest Q ((f.upd d p).upd d2 (.int k (l[m.toNat]'hm))) R M) :
    Wpl q C ops (⟨some d, .indexAddr T s i, ty, pos, af, none⟩ :: ⟨some d2, .load E (.tmp d), ty2, pos2, af2, none⟩ :: rest) Q f R M := by
  have hn : n = l.length := by have := hrow.1; rw [ints_length] at this; omega
  exact Wpl.indexLoad (u := .int k (l[m.toNat]'(by omega))) hd hd2 hT.h hE.h hF hs hrow hi ⟨h0, by omega⟩ (by
    have hlt : m.toNat < l.length := by omega
    simp only [ints, List.getElem?_map, List.getElem?_eq_getElem hlt, Option.map_some]) (fun p => k1 p (by omega))
/-- at a natural index -/
theorem Wpl.idxN {s i : Operand} {d2 : Nat} {T E ty2 : TypeId} {pos2 : String} {af2 : Array Edge} {by_ : Nat} {z : Value} [hT : SliceT C.P T E] [hE : CellT C.P E z by_] {F : Frag} {v : Value} {ki k : IntKind} {m : Nat} {l : List Int} {n : Nat}
    (hd : Nat.blt d C.n = true) (hd2 : Nat.blt d2 C.n = true) (hs : f.ev s = v) (hi : f.ev i = .int ki (m : Int)) (hrow : Row F 1 v n (ints k l)) (hF : HasF R M F) (h1 : m < l.length)
    (k1 : ∀ p (hm : m < l.length), Wpl q C ops rest Q ((f.upd d p).upd d2 (.int k (l[m]'hm))) R M) :
    Wpl q C ops (⟨some d, .indexAddr T s i, ty, pos, af, none⟩ :: ⟨some d2, .load E (.tmp d), ty2, pos2, af2, none⟩ :: rest) Q f R M :=
  Wpl.idx hd hd2 hs hi hrow hF (by omega) (by omega) k1
theorem Wpl.idxAgg {α : Type} {g : α → List Value} {s i : Operand} {d2 : Nat} {T E ty2 : TypeId} {pos2 : String} {af2 : Array Edge} {by_ kk : Nat} {z : Value} [hT : SliceT C.P T E] [hE : AggT C.P E kk z by_] {F : Frag} {v : Value} {ki : IntKind} {m : Int} {l : List α} {n : Nat}
    (hd : Nat.blt d C.n = true) (hd2 : Nat.blt d2 C.n = true) (hs : f.ev s = v) (hi : f.ev i = .int ki m) (hrow : Row F kk v n (flat g l)) (hg : ∀ a, (g a).length = kk) (hF : HasF R M F) (h0 : 0 ≤ m) (h1 : m < l.length) (hk : 0 < kk)
    (k1 : ∀ p (hm : m.toNat < l.length), Wpl q C ops rest Q ((f.upd d p).upd d2 (.agg (g (l[m.toNat]'hm)).toArray)) R M) :
    Wpl q C ops (⟨some d, .indexAddr T s i, ty, pos, af, none⟩ :: ⟨some d2, .load E (.tmp d), ty2, pos2, af2, none⟩ :: rest) Q f R M := by
  have hn : n = l.length := by
    have := hrow.1
    rw [flat_length hg] at this
    exact (Nat.eq_of_mul_eq_mul_right hk this).symm
  exact Wpl.indexLoadAgg (us := g (l[m.toNat]'(by omega))) hd hd2 hT.h hE.h hF hs hrow hi ⟨h0, by omega⟩ (hg _) (flat_at hg l m.toNat (by omega)) (fun p => k1 p (by omega))

/-! variables in memory -/
theorem Wpl.new {T : TypeId} {kk by_ : Nat} {z : Value} [hT : AnyT C.P T kk z by_] (hd : Nat.blt d C.n = true)
    (k : ∀ b, Wpl .seq C ops rest Q (f.upd d (.pointer (some ⟨b, 0, none⟩))) R ([(b, .cells z.cells T (0, 0))] :: M)) :
    Wpl .seq C ops (⟨some d, .alloc T, ty, pos, af, none⟩ :: rest) Q f R M := by
  obtain ⟨agg, h⟩ := hT.h
  exact Wpl.alloc hd h k
theorem Wpl.fld {x : Operand} {S : TypeId} {i b off o : Nat} [hS : FieldT C.P S i o] (hd : Nat.blt d C.n = true) (hx : f.ev x = .pointer (some ⟨b, off, none⟩))
    (k : Wpl q C ops rest Q (f.upd d (.pointer (some ⟨b, off + o, none⟩))) R M) : Wpl q C ops (⟨some d, .fieldAddr S x i, ty, pos, af, none⟩ :: rest) Q f R M :=
  Wpl.fieldAddr hd hx hS.h k
/-- out of a changeable piece -/
theorem Wpl.ld (i j : Nat) {x : Operand} {T E : TypeId} {fz : Nat × Nat} {by_ : Nat} {z : Value} [hT : CellT C.P T z by_] {b off : Nat} {c : Array Value} {v : Value} (hd : Nat.blt d C.n = true) (hx : f.ev x = .pointer (some ⟨b, off, none⟩)) (hk : M[i]?.bind (·[j]?) = some (b, .cells c E fz))
    (hc : c.toList[off]? = some v) (k : Wpl q C ops rest Q (f.upd d v) R M) : Wpl q C ops (⟨some d, .load T x, ty, pos, af, none⟩ :: rest) Q f R M :=
  Wpl.load hd hT.h hx (Known.m i j hk) hc k
theorem Wpl.ldAgg (i j : Nat) {x : Operand} {T E : TypeId} {fz : Nat × Nat} {by_ n : Nat} {z : Value} [hT : AggT C.P T n z by_] {b off : Nat} {c : Array Value} {cs : List Value} (hd : Nat.blt d C.n = true) (hx : f.ev x = .pointer (some ⟨b, off, none⟩)) (hk : M[i]?.bind (·[j]?) = some (b, .cells c E fz))
    (hc : (c.toList.drop off).take n = cs) (hl : cs.length = n) (k : Wpl q C ops rest Q (f.upd d (.agg cs.toArray)) R M) : Wpl q C ops (⟨some d, .load T x, ty, pos, af, none⟩ :: rest) Q f R M :=
  Wpl.loadAgg hd hT.h hx (Known.m i j hk) hl hc k
theorem Wpl.st (i j : Nat) {x y : Operand} {T E : TypeId} {by_ : Nat} {z : Value} [hT : CellT C.P T z by_] {b off : Nat} {F : Frag} {c : Array Value} {v : Value}
    (hx : f.ev x = .pointer (some ⟨b, off, none⟩)) (hi : M[i]? = some F) (hj : F[j]? = some (b, .cells c E (0, 0))) (hy : f.ev y = v) (hone : v.oneCell' = true)
    (hb : off < c.size)
    (k : Wpl .seq C ops rest Q f R (M.set i (F.set j (b, .cells (c.toList.set off v).toArray E (0, 0))))) :
    Wpl .seq C ops (⟨none, .store T x y, ty, pos, af, none⟩ :: rest) Q f R M := Wpl.store hT.h hx hy hi hj hone hb k
/-- a whole variable of several cells -/
theorem Wpl.stAgg (i j : Nat) {x y : Operand} {T E : TypeId} {by_ n : Nat} {z : Value} [hT : AggT C.P T n z by_] {b : Nat} {F : Frag} {c cs : Array Value}
    (hx : f.ev x = .pointer (some ⟨b, 0, none⟩)) (hi : M[i]? = some F) (hj : F[j]? = some (b, .cells c E (0, 0))) (hy : f.ev y = .agg cs) (hn : cs.size = n) (hone : ∀ u ∈ cs.toList, u.oneCell' = true) (hc : c.size = n)
    (k : Wpl .seq C ops rest Q f R (M.set i (F.set j (b, .cells cs E (0, 0))))) :
    Wpl .seq C ops (⟨none, .store T x y, ty, pos, af, none⟩ :: rest) Q f R M := by
  refine Wpl.storeCells (v := .agg cs) (c := c) (E := E) hx hy (fun w => by simp only [Value.cells]; rw [hn]; exact hT.h.run_size w) hi hj hone (by simp only [Value.cells]; omega) ?_
  have : (c.toList.take 0 ++ (Value.agg cs).cells.toList ++ c.toList.drop (0 + (Value.agg cs).cells.size)).toArray = cs := by
    simp only [Value.cells, List.take_zero, List.nil_append, Nat.zero_add]
    rw [List.drop_of_length_le (by simp; omega)]
    simp
  rw [this]
  exact k
end rules
end Go.SL
namespace Go.SL
open Go.RowKit

theorem frag1_In {b : Nat} {o : Obj} {w : World} (h : w.heap[b]? = some o) : Frag.In [(b, o)] w := fun p hp => by rw [List.mem_singleton.1 hp]; exact h

theorem cells_of_row' {F : Frag} {k n : Nat} {x : Value} {xs : List Value} {w : World} (h : Row F k x n xs) (hF : F.In w) (hn : 0 < n) :
    ∃ a cap, x = .slice (some a) n cap ∧ ∀ j v, xs[j]? = some v → w.cell? (a.add j) = some v := by
  obtain ⟨hl, a, cap, rfl, h1, h2, h3⟩ := h
  obtain ⟨b, off, c, E, fz, rfl, hp, hc⟩ := h3 hn
  refine ⟨_, cap, rfl, fun j v hj => ?_⟩
  have hlt := (List.getElem?_eq_some_iff.1 hj).1
  rw [addr_add, cell_of_row w b _ c E fz (hF _ hp), hc j (by omega)]
  exact hj

theorem append_run {P : Program} {t ty e k bytes n m : Nat} {agg : Bool} {z v x : Value} {F F2 : Frag} {xs ys : List Value} {w : World} (ht : P.underlying t = some (.slice e)) (hE : ElemT P e agg k z bytes) (hk : 0 < k)
    (hrow : OwnRow e k F v n xs) (hF : F.In w) (hsrc : Row F2 k x m ys) (hF2 : F2.In w) (hone : ∀ u ∈ ys, u.oneCell' = true) (hb : (n + m) * bytes ≤ 140737488355328) (hm63 : n + m ≤ maxLen) :
    ∃ v' F' w', (Builtin.append_ #[t, t] ty #[v, x]).run P w = .ok v' w' ∧ OwnRow e k F' v' (n + m) (xs ++ ys) ∧ F'.In w' ∧ w'.os = w.os ∧ w'.tape = w.tape ∧ w'.output = w.output ∧ w.heap.size ≤ w'.heap.size ∧
      (∀ j, j < w.heap.size → j ∉ F.map (·.1) → w'.heap[j]? = w.heap[j]?) ∧ (F'.map (·.1)).Nodup ∧ (∀ j ∈ F'.map (·.1), j ∈ F.map (·.1) ∨ w.heap.size ≤ j) := by
  obtain ⟨i, hi, hz, hsz, hby⟩ := hE.info
  have h63 : n + m ≤ 9223372036854775807 := by have := hm63; unfold maxLen at this; omega
  have hysl := hsrc.1
  by_cases hm0 : m = 0
  · subst hm0
    have hys : ys = [] := List.eq_nil_of_length_eq_zero (by simpa using hysl)
    subst hys
    obtain ⟨a2, c2, rfl⟩ := hsrc.len
    have hfc : (Builtin.firstCells k 0 (.slice a2 0 c2)).run P w = .ok #[] w := by
      cases a2 <;> simp [Builtin.firstCells, loadCells, loadCellsFrom]
    have hrow0 := hrow
    have hnd : (F.map (·.1)).Nodup := by
      rcases hrow.2 with ⟨_, _, rfl⟩ | ⟨b, cap, c, _, rfl, _⟩ <;> simp
    rcases hrow.2 with ⟨rfl, rfl, rfl⟩ | ⟨b, cap, c, rfl, rfl, h1, h2, h3, h4⟩
    · refine ⟨_, _, w, ?_, by simpa using hrow0, hF, rfl, rfl, rfl, Nat.le_refl _, fun _ _ _ => rfl, hnd, fun j hj => .inl hj⟩
      simp [Builtin.append_, run_underlying ht, hE.run_size, Builtin.lenOf, hfc]
    · refine ⟨_, _, w, ?_, by simpa using hrow0, hF, rfl, rfl, rfl, Nat.le_refl _, fun _ _ _ => rfl, hnd, fun j hj => .inl hj⟩
      simp [Builtin.append_, run_underlying ht, hE.run_size, Builtin.lenOf, hfc, h1, Go.storeCells]
  · obtain ⟨a, cap2, rfl, hcells⟩ := cells_of_row' hsrc hF2 (by omega)
    subst hsz hby
    have hgrow : ∀ (old : Nat), old < n + m → OwnRow e i.size [(w.heap.size, .cells (xs.toArray ++ ys.toArray ++ Builtin.zeroCells z.cells (grownCap w (n + m) old e - (n + m))) e (0, 0))]
        (.slice (some ⟨w.heap.size, 0, none⟩) (n + m) (grownCap w (n + m) old e)) (n + m) (xs ++ ys) := fun old ho => by
      have hge := grownCap_ge w (n + m) old e
      have hle := grownCap_le_maxLen w (n + m) old e hm63
      refine ⟨by rw [List.length_append, hrow.1, hysl, Nat.add_mul], .inr ⟨_, _, _, rfl, rfl, hge, hle, ?_, ?_⟩⟩
      · simp only [Array.size_append, List.size_toArray, size_zeroCells, hE.zs, hrow.1, hysl, ← Nat.add_mul]
        congr 1
        omega
      · have hl : (xs ++ ys).length = (n + m) * i.size := by rw [List.length_append, hrow.1, hysl, Nat.add_mul]
        simp only [Array.toList_append, List.append_assoc]
        rw [← List.append_assoc, ← hl]
        exact List.take_left
    rcases hrow.2 with ⟨rfl, rfl, rfl⟩ | ⟨b, cap, c, rfl, rfl, h1, h2, h3, h4⟩
    · have hx : xs = [] := List.eq_nil_of_length_eq_zero (by simpa using hrow.1)
      subst hx
      have hr := run_append_nil (P := P) w t ty e i z ht hi hz a m cap2 ys hysl hcells (by omega) (by omega) (by have := hb; simp only [Nat.zero_add] at this; omega)
      have hg := hgrow 0 (by omega)
      simp only [Nat.zero_add, List.nil_append] at hg ⊢
      refine ⟨_, _, _, hr, by simpa using hg, frag1_In ?_, rfl, rfl, rfl, by simp, fun j hj _ => ?_, by simp, fun j hj => .inr (by simp at hj; omega)⟩
      · have := heap_alloc_new w.drew (.cells (ys.toArray ++ Builtin.zeroCells z.cells (grownCap w m 0 e - m)) e (0, 0))
        simpa using this
      · exact Below.heap_alloc w.drew _ j hj
    · have hheap := hF _ (List.mem_singleton.2 rfl)
      by_cases hroom : n + m ≤ cap
      · have hfit : n * i.size + ys.length ≤ c.size := by rw [hysl, h3, ← Nat.add_mul]; exact Nat.mul_le_mul_right _ hroom
        have hr := run_append_room (P := P) w t ty e i ht hi b n cap c hheap a m cap2 ys hysl hcells hone hroom hfit
        refine ⟨_, [(b, .cells (c.toList.take (n * i.size) ++ ys ++ c.toList.drop (n * i.size + ys.length)).toArray e (0, 0))], _, hr, ⟨by rw [List.length_append, hrow.1, hysl, Nat.add_mul], .inr ⟨_, _, _, rfl, rfl, hroom, h2, ?_, ?_⟩⟩,
          frag1_In (setRow_heap w b c _ e (0, 0) hheap), rfl, rfl, rfl, by simp, fun j hj hjk => setRow_other w b j _ (fun e => hjk (by simp [e])), by simp, fun j hj => .inl (by simpa using hj)⟩
        · simp only [List.size_toArray, List.length_append, List.length_take, List.length_drop, Array.length_toList]
          omega
        · rw [h4]
          have hl : (xs ++ ys).length = (n + m) * i.size := by rw [List.length_append, hrow.1, hysl, Nat.add_mul]
          rw [← hl]
          exact List.take_left
      · have holds : ∀ j v, xs[j]? = some v → w.cell? ((⟨b, 0, none⟩ : Addr).add j) = some v := fun j v hj => by
          rw [addr_add, cell_of_row w b _ c e (0, 0) hheap]
          have hlt := (List.getElem?_eq_some_iff.1 hj).1
          rw [← h4, List.getElem?_take] at hj
          split at hj
          · simpa using hj
          · cases hj
        have hr := run_append_grow (P := P) w t ty e i z ht hi hz ⟨b, 0, none⟩ n cap xs hrow.1 holds a m cap2 ys hysl hcells (by omega) (by omega) (growslice_fits (by omega) hb)
        have hg := hgrow cap (by omega)
        refine ⟨_, _, _, hr, hg, frag1_In ?_, rfl, rfl, rfl, by simp, fun j hj _ => Below.heap_alloc w.drew _ j hj, by simp, fun j hj => .inr (by simp at hj; omega)⟩
        have := heap_alloc_new w.drew (.cells (xs.toArray ++ ys.toArray ++ Builtin.zeroCells z.cells (grownCap w (n + m) cap e - (n + m))) e (0, 0))
        simpa using this

section rules
variable {q : Md} {C : Cx} {ops : Array Oper} {rest : List Oper} {Q : Exit → Env → List Frag → List Frag → Prop} {f : Env} {R M : List Frag}
variable {d : Nat} {ty : TypeId} {pos : String} {af : Array Edge}

theorem Wpl.append (i : Nat) {s x : Operand} {T E : TypeId} {k n m bytes : Nat} {z v u : Value} {F F2 : Frag} {xs ys : List Value} [hT : SliceT C.P T E] [hE : AnyT C.P E k z bytes] (hd : Nat.blt d C.n = true) (hrow : OwnRow E k F v n xs) (hi : M[i]? = some F)
    (hs : f.ev s = v) (hx : f.ev x = u) (hsrc : Row F2 k u m ys) (hF2 : HasF R M F2) (hk : 0 < k) (hone : ∀ y ∈ ys, y.oneCell' = true) (hb : (n + m) * bytes ≤ 140737488355328) (hm63 : n + m ≤ maxLen)
    (k1 : ∀ v' F', OwnRow E k F' v' (n + m) (xs ++ ys) → Wpl .seq C ops rest Q (f.upd d v') R (M.set i F')) :
    Wpl .seq C ops (⟨some d, .call ⟨.builtin .append, #[s, x], #[T, T]⟩, ty, pos, af, none⟩ :: rest) Q f R M := by
  refine Wpl.chg rfl hd fun w hw => ?_
  obtain ⟨agg, hE'⟩ := hE.h
  obtain ⟨v', F', w', hr, h1, h2, h3, h4, h5, h6, h7, h8, h9⟩ := append_run (w := w) (ty := ty) hT.h hE' hk hrow (hw.mu F (List.mem_of_getElem? hi)) hsrc
    (by rcases hF2 with h | h; exact hw.ro _ h; exact hw.mu _ h) hone hb hm63
  refine ⟨v', w', R, M.set i F', ?_, hw.set hi h3 h4 h5 h6 h7 h2 h8 h9, k1 v' F' h1⟩
  simp [execOp, resolve, invoke, builtin, hs, hx, hr]

/-- a slice literal of values of one cell -/
theorem Wpl.lit {T E : TypeId} {k bytes len : Nat} {z : Value} {parts : Array (Nat × Operand)} {cs : Array Value} [hT : SliceT C.P T E] [hE : AnyT C.P E k z bytes] (hd : Nat.blt d C.n = true) (hk : 0 < len * k) (h24 : len * k ≤ 16777216)
    (hfill : Instr.fill (fun i => some (i * k, k)) ((Array.range (len * k)).map (z.cells[· % z.cells.size]!)) (parts.toList.map fun p => (p.1, f.ev p.2)) = some cs)
    (k1 : ∀ b, Wpl .seq C ops rest Q (f.upd d (.slice (some ⟨b, 0, none⟩) len len)) R ([(b, .cells cs E (0, 0))] :: M)) :
    Wpl .seq C ops (⟨some d, .buildSlice T len parts, ty, pos, af, none⟩ :: rest) Q f R M :=
  Wpl.newBlock rfl rfl hd (.cells cs E (0, 0)) (fun b => .slice (some ⟨b, 0, none⟩) len len) (fun w hw => by
    obtain ⟨agg, hE'⟩ := hE.h
    have e : (parts.map fun p => (p.1, f.ev p.2)).toList = parts.toList.map fun p => (p.1, f.ev p.2) := by simp
    have h1 : ¬ 16777216 < len * k := by omega
    have h2 : ¬ len * k = 0 := by omega
    have h2a : ¬ len = 0 := fun e => by subst e; simp at hk
    have h2b : ¬ k = 0 := fun e => by subst e; simp at hk
    simp only [execOp, Instr.buildSlice, Sem.run_bind, run_underlying hT.h, Result.andThen_ok, hE'.run_size, Sem.run_ite, h1, h2, if_false, hE'.run_zero, Sem.run_pure, newRow, run_newObj, Nat.reducePow]
    have hf := hfill
    rw [← e] at hf
    simp only [hf, Sem.run_bind, run_newObj, Result.andThen_ok, Sem.run_pure]
    rfl) k1

theorem fill_one {k : Nat} {zs cs : Array Value} {u : Value} (hz : zs.size = k) (hu : u.cells = cs) (hc : cs.size = k) : Instr.fill (fun i => some (i * k, k)) zs [(0, u)] = some cs := by
  subst hu
  simp only [Instr.fill, hc, Nat.zero_mul, Nat.zero_add]
  rw [if_neg (by simp [hz])]
  congr 1
  have key : ∀ (l : List Value) (m : Nat) (acc : Array Value), m + l.length ≤ acc.size → (l.zipIdx m).foldl (fun cs x => cs.setIfInBounds (0 + x.2) x.1) acc = (acc.toList.take m ++ l ++ acc.toList.drop (m + l.length)).toArray := by
    intro l
    induction l with
    | nil => intro m acc h; simp
    | cons a l ih =>
      intro m acc h
      simp only [List.zipIdx_cons, List.foldl_cons, Nat.zero_add] at *
      rw [ih (m + 1) _ (by simp at h ⊢; omega)]
      congr 1
      have hm : m < acc.size := by simp at h; omega
      simp only [Array.toList_setIfInBounds]
      rw [List.set_eq_take_append_cons_drop, if_pos (by simpa using hm)]
      have e1 : (acc.toList.take m ++ a :: acc.toList.drop (m + 1)).take (m + 1) = acc.toList.take m ++ [a] := by
        rw [List.take_append]
        have : (acc.toList.take m).length = m := by simp; omega
        rw [this, List.take_of_length_le (by omega)]
        simp
      have e2 : (acc.toList.take m ++ a :: acc.toList.drop (m + 1)).drop (m + 1 + l.length) = acc.toList.drop (m + (a :: l).length) := by
        rw [List.drop_append]
        have : (acc.toList.take m).length = m := by simp; omega
        rw [this, List.drop_of_length_le (by omega)]
        have e3 : m + 1 + l.length - m = l.length + 1 := by omega
        rw [e3, List.drop_succ_cons, List.drop_drop]
        simp
        congr 1
        omega
      rw [e1, e2]
      simp
  have hfold : Array.foldl (fun cs x => cs.setIfInBounds (0 + x.2) x.1) zs u.cells.zipIdx = (u.cells.toList.zipIdx 0).foldl (fun cs x => cs.setIfInBounds (0 + x.2) x.1) zs := by
    rw [← Array.foldl_toList]
    simp
  simp only [Nat.zero_add] at hfold key ⊢
  rw [hfold, key _ 0 zs (by simp; omega)]
  simp
  rw [List.drop_of_length_le (by simp; omega)]
  simp

/-- append of one element -/
theorem Wpl.app1 (i : Nat) {s x : Operand} {T E ty2 : TypeId} {pos2 : String} {af2 : Array Edge} {d2 k n bytes : Nat} {z v u : Value} {F : Frag} {xs us : List Value} [hT : SliceT C.P T E] [hE : AnyT C.P E k z bytes] (hd : Nat.blt d C.n = true) (hd2 : Nat.blt d2 C.n = true) (hrow : OwnRow E k F v n xs) (hi : M[i]? = some F)
    (hs : f.ev s = v) (hx : f.ev x = u) (hu : u.cells.toList = us) (hsd : (f.upd d undef).ev s = v) (hk : 0 < k ∧ k ≤ 16777216) (hul : us.length = k) (hone : ∀ y ∈ us, y.oneCell' = true) (hb : (n + 1) * bytes ≤ 140737488355328) (hm63 : n < maxLen)
    (k1 : ∀ p v' F', OwnRow E k F' v' (n + 1) (xs ++ us) → Wpl .seq C ops rest Q ((f.upd d p).upd d2 v') R (M.set i F')) :
    Wpl .seq C ops (⟨some d, .buildSlice T 1 #[(0, x)], ty, pos, af, none⟩ :: ⟨some d2, .call ⟨.builtin .append, #[s, .tmp d], #[T, T]⟩, ty2, pos2, af2, none⟩ :: rest) Q f R M := by
  have hsz : u.cells.size = k := by rw [← hul, ← hu]; simp
  obtain ⟨agg, hE'⟩ := hE.h
  refine Wpl.lit (cs := u.cells) hd (by omega) (by omega) ?_ fun b => ?_
  · show Instr.fill _ _ [(0, f.ev x)] = _
    rw [hx]
    exact fill_one (by simp) rfl hsz
  · refine Wpl.append (i + 1) (F := F) (F2 := [(b, .cells u.cells E (0, 0))]) (m := 1) (ys := us) (u := .slice (some ⟨b, 0, none⟩) 1 1) hd2 hrow (by simpa using hi) ?_ (by simp only [Env.ev, Env.upd, Nat.beq_refl, cond_true]) ?_ (HasF.m 0 rfl) hk.1 hone hb (by unfold maxLen at *; omega) ?_
    · cases s with
      | tmp t =>
        simp only [Env.ev, Env.upd] at hsd hs ⊢
        cases hb : Nat.beq t d with
        | false => rw [cond_false]; exact hs
        | true =>
          have e := Nat.eq_of_beq_eq_true hb
          subst e
          rw [hb] at hsd
          simp only [cond_true] at hsd
          subst hsd
          rcases hrow.2 with ⟨h, _⟩ | ⟨_, _, _, h, _⟩ <;> cases h
      | _ => exact hs
    · refine ⟨by omega, _, _, rfl, Nat.le_refl _, by unfold maxLen; omega, fun _ => ⟨b, 0, u.cells, E, (0, 0), rfl, List.mem_singleton.2 rfl, fun j hj => ?_⟩⟩
      rw [← hu]
      simp
    · intro v' F' hrow'
      have := k1 (.slice (some ⟨b, 0, none⟩) 1 1) v' F' hrow'
      exact Wpl.dropM (M' := M.set i F') (by simp) this
end rules
end Go.SL
