/- rules for regions that draw their order, for own slices, for tails of stores -/
import Derived.Test.YtmfcgffdijnokaaPa
import Derived.OrdersHeld
import Derived.Laws.Pointers
import Derived.Laws.Small
import Derived.Laws.Slices
import Derived.WideLaws
import Derived.Lib.IfaceEq
import Derived.Lib.SliceRun
import Derived.StillTail
set_option linter.unusedVariables false
set_option linter.unusedSimpArgs false
set_option linter.unusedSectionVars false
namespace Go.SL
open Go.RowKit

/-! struct values -/
def fillL (place : Nat → Option (Nat × Nat)) : List Value → List (Nat × Value) → Option (List Value)
  | cs, [] => some cs
  | cs, (i, v) :: rest =>
    match place i with
    | none => none
    | some (off, size) => bif (Nat.beq v.cells.toList.length size && Nat.ble (off + v.cells.toList.length) cs.length) then fillL place (cs.take off ++ v.cells.toList ++ cs.drop (off + v.cells.toList.length)) rest else none

theorem fold_set (off : Nat) : ∀ (l : List Value) (m : Nat) (acc : Array Value), off + m + l.length ≤ acc.size →
    (l.zipIdx m).foldl (fun cs x => cs.setIfInBounds (off + x.2) x.1) acc = (acc.toList.take (off + m) ++ l ++ acc.toList.drop (off + m + l.length)).toArray
  | [], m, acc, h => by simp
  | a :: l, m, acc, h => by
    simp only [List.zipIdx_cons, List.foldl_cons]
    have hm : off + m < acc.size := by simp at h; omega
    rw [fold_set off l (m + 1) _ (by simp at h ⊢; omega)]
    congr 1
    simp only [Array.toList_setIfInBounds]
    rw [List.set_eq_take_append_cons_drop, if_pos (by simpa using hm)]
    have hl : (acc.toList.take (off + m)).length = off + m := by simp; omega
    have e1 : (acc.toList.take (off + m) ++ a :: acc.toList.drop (off + m + 1)).take (off + (m + 1)) = acc.toList.take (off + m) ++ [a] := by
      rw [List.take_append, hl, List.take_of_length_le (by omega)]
      have : off + (m + 1) - (off + m) = 1 := by omega
      rw [this]
      simp
    have e2 : (acc.toList.take (off + m) ++ a :: acc.toList.drop (off + m + 1)).drop (off + (m + 1) + l.length) = acc.toList.drop (off + m + (a :: l).length) := by
      rw [List.drop_append, hl, List.drop_of_length_le (by omega)]
      have e3 : off + (m + 1) + l.length - (off + m) = l.length + 1 := by omega
      rw [e3, List.drop_succ_cons, List.drop_drop]
      simp
      congr 1
      omega
    rw [e1, e2]
    simp

theorem fill_of_fillL {place : Nat → Option (Nat × Nat)} : ∀ {parts : List (Nat × Value)} {zs : List Value} {cs : List Value}, fillL place zs parts = some cs → Instr.fill place zs.toArray parts = some cs.toArray
  | [], zs, cs, h => by simp only [fillL] at h; cases h; rfl
  | (i, v) :: rest, zs, cs, h => by
    simp only [fillL] at h
    simp only [Instr.fill]
    cases hp : place i with
    | none => rw [hp] at h; cases h
    | some p =>
      obtain ⟨off, size⟩ := p
      rw [hp] at h
      simp only at h ⊢
      cases hc : (Nat.beq v.cells.toList.length size && Nat.ble (off + v.cells.toList.length) zs.length) with
      | false => rw [hc] at h; cases h
      | true =>
        rw [hc] at h
        simp only [cond_true] at h
        rw [Bool.and_eq_true] at hc
        have h1 : v.cells.size = size := by simpa using Nat.eq_of_beq_eq_true hc.1
        have h2 : off + v.cells.size ≤ zs.length := by simpa using Nat.le_of_ble_eq_true hc.2
        rw [if_neg (by simp [h1]; omega)]
        have hfold : Array.foldl (fun cs x => cs.setIfInBounds (off + x.2) x.1) zs.toArray v.cells.zipIdx = (v.cells.toList.zipIdx 0).foldl (fun cs x => cs.setIfInBounds (off + x.2) x.1) zs.toArray := by
          rw [← Array.foldl_toList]
          simp
        have := fold_set off v.cells.toList 0 zs.toArray (by simp; omega)
        simp only [Nat.add_zero] at this
        rw [hfold, this]
        exact fill_of_fillL h

def structFact (P : Program) (T : TypeId) : Option (List (Nat × Nat) × List Value) :=
  match P.underlying T, (P.info? T).bind (·.zero) with
  | some (.struct fs), some z => bif fs.toList.all (fun f => (P.info? f.type).isSome) then some (fs.toList.map (fun f => (f.offset, P.cellsOf f.type)), z.cells.toList) else none
  | _, _ => none
class StructT (P : Program) (T : TypeId) (pl : outParam (List (Nat × Nat))) (zs : outParam (List Value)) : Prop where h : structFact P T = some (pl, zs)

theorem structFact_inv {P : Program} {T : TypeId} {pl : List (Nat × Nat)} {zs : List Value} (h : structFact P T = some (pl, zs)) :
    ∃ fs z i, P.underlying T = some (.struct fs) ∧ P.info? T = some i ∧ i.zero = some z ∧ (∀ f ∈ fs.toList, ∃ i, P.info? f.type = some i) ∧ pl = fs.toList.map (fun f => (f.offset, P.cellsOf f.type)) ∧ zs = z.cells.toList := by
  unfold structFact at h
  split at h
  · rename_i fs z h1 h2
    cases hc : fs.toList.all (fun f => (P.info? f.type).isSome) with
    | false => rw [hc] at h; cases h
    | true =>
      rw [hc] at h
      simp only [cond_true, Option.some.injEq, Prod.mk.injEq] at h
      obtain ⟨i, hi, hz⟩ := Option.bind_eq_some_iff.1 h2
      exact ⟨fs, z, i, h1, hi, hz, fun f hf => Option.isSome_iff_exists.1 (List.all_eq_true.1 hc f hf), h.1.symm, h.2.symm⟩
  · cases h

theorem run_places {P : Program} (w : World) : ∀ (l : List Field), (∀ f ∈ l, ∃ i, P.info? f.type = some i) →
    (l.mapM (m := Sem) fun f => do pure (f.offset, ← sizeOf f.type)).run P w = .ok (l.map (fun f => (f.offset, P.cellsOf f.type))) w
  | [], _ => by simp
  | f :: l, h => by
    obtain ⟨i, hi⟩ := h f (List.mem_cons_self ..)
    have ih := run_places w l (fun g hg => h g (List.mem_cons_of_mem _ hg))
    rw [List.mapM_cons]
    have e : (sizeOf f.type).run P w = .ok (P.cellsOf f.type) w := by simp [sizeOf, typeInfo, Program.cellsOf, hi]
    simp only [Sem.run_bind, e, Result.andThen_ok, Sem.run_pure, ih, List.map_cons]

theorem run_build {P : Program} {T : TypeId} {pl : List (Nat × Nat)} {zs cs : List Value} (h : structFact P T = some (pl, zs)) (parts : Array (Nat × Value)) (hf : fillL (pl[·]?) zs parts.toList = some cs) (w : World) :
    (Instr.build T parts).run P w = .ok (.agg cs.toArray) w := by
  obtain ⟨fs, z, i, h1, h2, h3, h4, rfl, rfl⟩ := structFact_inv h
  have hz : (zeroValue T).run P w = .ok z w := by simp [zeroValue, typeInfo, h2, h3]
  have hm : (fs.mapM (m := Sem) fun f => do pure (f.offset, ← sizeOf f.type)).run P w = .ok (fs.toList.map (fun f => (f.offset, P.cellsOf f.type))).toArray w := by
    rw [Array.mapM_eq_mapM_toList]
    simp only [Sem.run_map, run_places w fs.toList h4, Result.andThen_ok]
  have hfill := fill_of_fillL hf
  simp only [Instr.build, Sem.run_bind, hz, Result.andThen_ok, run_underlying h1, hm]
  have e : (fun x : Nat => (fs.toList.map (fun f => (f.offset, P.cellsOf f.type))).toArray[x]?) = (fun x : Nat => (fs.toList.map (fun f => (f.offset, P.cellsOf f.type)))[x]?) := by funext x; simp
  rw [e]
  have hz2 : z.cells.toList.toArray = z.cells := by simp
  rw [hz2] at hfill
  rw [hfill]
  rfl

theorem run_field {P : Program} {T : TypeId} {pl : List (Nat × Nat)} {zs : List Value} (h : structFact P T = some (pl, zs)) {i o sz : Nat} (hi : pl[i]? = some (o, sz)) (hsz : Nat.beq sz 0 = false) (b off : Nat) (w : World) :
    (Instr.fieldAt T (.pointer (some ⟨b, off, none⟩)) i).run P w = .ok (.pointer (some ⟨b, off + o, none⟩)) w := by
  obtain ⟨fs, z, ti, h1, h2, h3, h4, rfl, rfl⟩ := structFact_inv h
  rw [List.getElem?_map] at hi
  cases hf : fs.toList[i]? with
  | none => rw [hf] at hi; cases hi
  | some fd =>
    rw [hf] at hi
    simp only [Option.map_some, Option.some.injEq, Prod.mk.injEq] at hi
    obtain ⟨e1, e2⟩ := hi
    obtain ⟨ti2, hti⟩ := h4 fd (List.mem_of_getElem? hf)
    have e : (sizeOf fd.type).run P w = .ok (P.cellsOf fd.type) w := by simp [sizeOf, typeInfo, Program.cellsOf, hti]
    have hz' : ¬ P.cellsOf fd.type = 0 := fun e3 => by rw [e2] at e3; subst e3; cases hsz
    have hf' : fs[i]? = some fd := by simpa using hf
    simp only [Instr.fieldAt, Sem.run_bind, run_underlying h1, Result.andThen_ok, hf', Instr.sureAddr, Sem.run_pure, fieldPlace, e, hz', if_false, addr_add, e1]

section rules
variable {q : Md} {C : Cx} {ops : Array Oper} {rest : List Oper} {Q : Exit → Env → List Frag → List Frag → Prop} {f : Env} {R M : List Frag}
variable {d : Nat} {ty : TypeId} {pos : String} {af : Array Edge}

theorem Wpl.build {T : TypeId} {pl : List (Nat × Nat)} {zs cs : List Value} {parts : Array (Nat × Operand)} [hT : StructT C.P T pl zs] (hd : Nat.blt d C.n = true)
    (hf : fillL (pl[·]?) zs (parts.toList.map fun p => (p.1, f.ev p.2)) = some cs) (k : Wpl q C ops rest Q (f.upd d (.agg cs.toArray)) R M) :
    Wpl q C ops (⟨some d, .build T parts, ty, pos, af, none⟩ :: rest) Q f R M :=
  Wpl.val rfl hd _ (fun w hw => by
    have e : (parts.map fun p => (p.1, f.ev p.2)).toList = parts.toList.map fun p => (p.1, f.ev p.2) := by simp
    have := run_build hT.h (parts.map fun p => (p.1, f.ev p.2)) (by rw [e]; exact hf) w
    simp only [execOp, Sem.run_bind, this, Result.andThen_ok, Sem.run_pure]) k

/-- the address of a field -/
theorem Wpl.fldS {x : Operand} {S : TypeId} {pl : List (Nat × Nat)} {zs : List Value} {i b off o sz : Nat} [hS : StructT C.P S pl zs] (hd : Nat.blt d C.n = true) (hx : f.ev x = .pointer (some ⟨b, off, none⟩)) (hi : pl[i]? = some (o, sz)) (hsz : Nat.beq sz 0 = false)
    (k : Wpl q C ops rest Q (f.upd d (.pointer (some ⟨b, off + o, none⟩))) R M) : Wpl q C ops (⟨some d, .fieldAddr S x i, ty, pos, af, none⟩ :: rest) Q f R M :=
  Wpl.fieldAddr hd hx (fun b off w => run_field hS.h hi hsz b off w) k

/-! make -/
theorem madeCells_one (z : Value) (n : Nat) : (madeCells #[z] n).toList = List.replicate n z := by
  simp only [madeCells, Array.toList_map, Array.toList_range]
  refine List.ext_getElem? fun i => ?_
  simp only [List.getElem?_map, List.getElem?_replicate]
  by_cases h : i < n
  · have h1 : (List.range n)[i]? = some i := by simp [h]
    have h2 : i % (#[z] : Array Value).size = 0 := Nat.mod_one i
    rw [h1, if_pos h]
    simp only [Option.map_some, h2]
    rfl
  · have h1 : (List.range n)[i]? = none := by simp; omega
    rw [h1, if_neg h]
    rfl

theorem Wpl.mk {T E : TypeId} {k bytes : Nat} {z : Value} {x y : Operand} {kl kc : IntKind} {l c : Int} [hT : SliceT C.P T E] [hE : AnyT C.P E k z bytes] (hd : Nat.blt d C.n = true) (hx : f.ev x = .int kl l) (hy : f.ev y = .int kc c)
    (h0 : 0 ≤ l ∧ l ≤ c) (hb : (bytes : Int) * c ≤ 281474976710656) (h63 : c ≤ 9223372036854775807)
    (k1 : ∀ v F, OwnRow E k F v l.toNat ((madeCells z.cells (c.toNat * k)).toList.take (l.toNat * k)) → Wpl .seq C ops rest Q (f.upd d v) R (F :: M)) :
    Wpl .seq C ops (⟨some d, .makeSlice T x y, ty, pos, af, none⟩ :: rest) Q f R M := by
  obtain ⟨agg, hE'⟩ := hE.h
  obtain ⟨i, hi, hz, hsz, hby⟩ := hE'.info
  subst hsz hby
  refine Wpl.newBlock rfl rfl hd (.cells (madeCells z.cells (c.toNat * i.size)) E (0, 0)) (fun b => .slice (some ⟨b, 0, none⟩) l.toNat c.toNat) (fun w hw => ?_) (fun b => k1 _ _ ?_)
  · have hr := run_make (P := C.P) w T E i z hT.h hi hz kl kc l c h0.1 h0.2 hb h63
    simp only [execOp, hx, hy, Sem.run_bind, hr, Result.andThen_ok, Sem.run_pure]
  · have hls : l.toNat * i.size ≤ c.toNat * i.size := Nat.mul_le_mul_right _ (by omega)
    refine ⟨by rw [List.length_take, Array.length_toList, size_madeCells]; omega, .inr ⟨b, c.toNat, _, rfl, rfl, by omega, by unfold maxLen; omega, size_madeCells _ _, rfl⟩⟩

/-- make([]T, n), elements of one cell -/
theorem Wpl.mk1 {T E : TypeId} {bytes : Nat} {z : Value} {x y : Operand} {kl kc : IntKind} {l : Int} [hT : SliceT C.P T E] [hE : CellT C.P E z bytes] (hd : Nat.blt d C.n = true) (hx : f.ev x = .int kl l) (hy : f.ev y = .int kc l)
    (h0 : 0 ≤ l) (hb : (bytes : Int) * l ≤ 281474976710656) (h63 : l ≤ 9223372036854775807) (hz1 : z.cells = #[z])
    (k1 : ∀ v F, OwnRow E 1 F v l.toNat (List.replicate l.toNat z) → Wpl .seq C ops rest Q (f.upd d v) R (F :: M)) :
    Wpl .seq C ops (⟨some d, .makeSlice T x y, ty, pos, af, none⟩ :: rest) Q f R M :=
  Wpl.mk (E := E) (k := 1) hd hx hy ⟨h0, Int.le_refl _⟩ hb h63 (fun v F h => k1 v F (by
    rw [hz1, madeCells_one] at h
    simp only [Nat.mul_one] at h
    rw [List.take_of_length_le (by simp)] at h
    exact h))

/-- a slice literal, elements of one cell -/
theorem Wpl.lit1 {T E : TypeId} {bytes len : Nat} {z : Value} {parts : Array (Nat × Operand)} {cs : List Value} [hT : SliceT C.P T E] [hE : CellT C.P E z bytes] (hd : Nat.blt d C.n = true) (hk : 0 < len) (h24 : len ≤ 16777216) (hz : z.cells = #[z])
    (hfill : fillL (fun i => some (i, 1)) (List.replicate len z) (parts.toList.map fun p => (p.1, f.ev p.2)) = some cs)
    (k1 : ∀ v F, OwnRow E 1 F v len cs → Wpl .seq C ops rest Q (f.upd d v) R (F :: M)) :
    Wpl .seq C ops (⟨some d, .buildSlice T len parts, ty, pos, af, none⟩ :: rest) Q f R M := by
  have hl : ∀ (place : Nat → Option (Nat × Nat)) (parts : List (Nat × Value)) (zs cs : List Value), fillL place zs parts = some cs → cs.length = zs.length := by
    intro place parts
    induction parts with
    | nil => intro zs cs h; simp only [fillL] at h; cases h; rfl
    | cons p rest ih =>
      intro zs cs h
      obtain ⟨i, v⟩ := p
      simp only [fillL] at h
      cases hp : place i with
      | none => rw [hp] at h; cases h
      | some q =>
        obtain ⟨off, size⟩ := q
        rw [hp] at h
        simp only at h
        cases hc : (Nat.beq v.cells.toList.length size && Nat.ble (off + v.cells.toList.length) zs.length) with
        | false => rw [hc] at h; cases h
        | true =>
          rw [hc] at h
          simp only [cond_true] at h
          rw [Bool.and_eq_true] at hc
          have := Nat.le_of_ble_eq_true hc.2
          rw [ih _ _ h]
          simp only [List.length_append, List.length_take, List.length_drop]
          omega
  have e1 : (fun i => some (i * 1, 1)) = (fun i : Nat => some (i, 1)) := by funext i; simp
  have e2 : (Array.range (len * 1)).map (z.cells[· % z.cells.size]!) = (List.replicate len z).toArray := by
    have := madeCells_one z len
    rw [hz, Nat.mul_one]
    unfold madeCells at this
    rw [← this]
  refine Wpl.lit (E := E) (k := 1) (cs := cs.toArray) hd (by omega) (by omega) (by rw [e1, e2]; exact fill_of_fillL hfill) fun b => k1 _ _ ?_
  have hlen := hl _ _ _ _ hfill
  simp at hlen
  exact ⟨by simp [hlen], .inr ⟨b, len, _, rfl, rfl, Nat.le_refl _, by unfold maxLen; omega, by simp [hlen], by rw [Nat.mul_one, ← hlen]; simp⟩⟩

/-! lists of ints -/
theorem ints_set (k : IntKind) (l : List Int) (i : Nat) (x : Int) : (ints k l).set i (.int k x) = ints k (l.set i x) := by simp [ints, List.map_set]
theorem ints_append (k : IntKind) (l m : List Int) : ints k l ++ ints k m = ints k (l ++ m) := by simp [ints]
theorem ints_snoc (k : IntKind) (l : List Int) (x : Int) : ints k l ++ [.int k x] = ints k (l ++ [x]) := by simp [ints]
theorem ints_replicate (k : IntKind) (n : Nat) (x : Int) : List.replicate n (Value.int k x) = ints k (List.replicate n x) := by simp [ints]
theorem ints_one (k : IntKind) (l : List Int) : ∀ u ∈ ints k l, u.oneCell' = true := by
  intro u hu
  obtain ⟨x, _, rfl⟩ := List.mem_map.1 hu
  rfl
theorem take_snoc {α : Type} (l : List α) (k : Nat) (h : k < l.length) : l.take (k + 1) = l.take k ++ [l[k]] := by rw [List.take_succ_eq_append_getElem h]
theorem OwnRow.ilen {E : TypeId} {F : Frag} {v : Value} {n : Nat} {k : IntKind} {l : List Int} (h : OwnRow E 1 F v n (ints k l)) : l.length = n := by have := h.1; rw [ints_length] at this; omega

/-! a store into a slice of one's own -/
theorem OwnRow.set1 {E : TypeId} {F : Frag} {v : Value} {n : Nat} {xs : List Value} (h : OwnRow E 1 F v n xs) {m : Nat} (hm : m < n) (u : Value) :
    ∃ b c, F = [(b, .cells c E (0, 0))] ∧ v = .slice (some ⟨b, 0, none⟩) n (c.size) ∧ m < c.size ∧ OwnRow E 1 [(b, .cells (c.toList.set m u).toArray E (0, 0))] v n (xs.set m u) := by
  obtain ⟨hl, ⟨_, h0, _⟩ | ⟨b, cap, c, rfl, rfl, h1, h2, h3, h4⟩⟩ := h
  · omega
  · have hc : c.size = cap := by omega
    refine ⟨b, c, rfl, by rw [hc], by omega, by simpa using hl, .inr ⟨b, cap, _, rfl, rfl, h1, h2, by simpa using h3, ?_⟩⟩
    rw [← h4]
    simp only [List.take_set, Nat.mul_one]

theorem Wpl.idxSt (i : Nat) {s x y : Operand} {T E ty2 : TypeId} {pos2 : String} {af2 : Array Edge} {by_ n : Nat} {z v u : Value} {F : Frag} {xs : List Value} {ki : IntKind} {m : Int} [hT : SliceT C.P T E] [hE : CellT C.P E z by_] (hd : Nat.blt d C.n = true)
    (hrow : OwnRow E 1 F v n xs) (hs : f.ev s = v) (hx : f.ev x = .int ki m) (hi : M[i]? = some F) (h0 : 0 ≤ m) (h1 : m < n) (hy : ∀ p, (f.upd d p).ev y = u) (hone : u.oneCell' = true)
    (k1 : ∀ p F', OwnRow E 1 F' v n (xs.set m.toNat u) → Wpl .seq C ops rest Q (f.upd d p) R (M.set i F')) :
    Wpl .seq C ops (⟨some d, .indexAddr T s x, ty, pos, af, none⟩ :: ⟨none, .store E (.tmp d) y, ty2, pos2, af2, none⟩ :: rest) Q f R M := by
  obtain ⟨b, c, rfl, rfl, hm, hrow'⟩ := hrow.set1 (m := m.toNat) (by omega) u
  refine Wpl.val rfl hd (.pointer (some ⟨b, m.toNat, none⟩)) (fun w hw => by simp [execOp, hs, hx, Instr.indexAt, asIntOf, run_underlying hT.h, h0, h1, hE.h.run_size, addr_add]) ?_
  exact Wpl.store (i := i) (j := 0) (F := [(b, .cells c E (0, 0))]) (c := c) (E := E) hE.h (by simp only [Env.ev, Env.put, Env.upd, Nat.beq_refl, cond_true]) (hy _) hi rfl hone hm (k1 _ _ hrow')
end rules
end Go.SL
namespace Go.SL
open Go.RowKit

/-! a region that draws its order, its loud operations one by one: R0, M0: what the quiet ones read -/
def Wph (C : Cx) (ops : Array Oper) (R0 M0 : List Frag) (fuel : Nat) (listed : Array Bool) (Q : Exit → Env → List Frag → List Frag → Prop) (f : Env) (R M : List Frag) : Prop :=
  ∀ a w, Fr C.n f a → Sat C R M w → wpAnyH C.P .any ops (liftQ C Q) (Sat C R0 M0) fuel listed a w

section rules
variable {q : Md} {C : Cx} {ops : Array Oper} {rest : List Oper} {Q : Exit → Env → List Frag → List Frag → Prop} {f : Env} {R M R0 M0 : List Frag}

theorem Wpc.region_held {id : Nat} {l : List Oper} (hm : C.P.follows .mixedOrders = true) (R0 M0 : List Frag) (n : Nat) (hn : l.toArray.size = n) (ls : Array Bool) (hls : Array.replicate n false = ls) (h : Wph C l.toArray R0 M0 n ls Q f R M) :
    Wpc C (.region id l.toArray true) Q f R M := fun a w ha hw => by
  refine wp_region_held (S := Sat C R0 M0) hm ?_
  subst hls hn
  exact h a _ ha (hw.of_heap rfl rfl rfl rfl)

theorem Wph.take (i : Nat) {o : Oper} {fuel : Nat} {listed listed' : Array Bool} (hi : ops[i]? = some o) (hs : (Region.noSelect ops && Region.free .any ops listed i && (Region.ready .any ops listed).contains i) = true) (hl : listed.setIfInBounds i true = listed')
    (hQ : ∀ c f R M, ¬ Q (.panic c) f R M) (hR : ∀ F ∈ R0, F ∈ R) (hM : Sel M M0)
    (h : Wpl .yld C ops [o] (fun e f' _ _ => Wph C ops R0 M0 fuel listed' Q f' R M) f R0 M0) : Wph C ops R0 M0 (fuel + 1) listed Q f R M := by
  intro a w ha hw
  simp only [Bool.and_eq_true] at hs
  have h1 := h a ha
  unfold wpYield at h1
  subst hl
  by_cases hwt : Region.wanted o (yielded ops a.tmps) = true
  · rw [if_pos hwt] at h1
    obtain ⟨v, hv, f', hf', hk⟩ := h1
    exact wpAnyH_take hi hs.1.1 hs.1.2 hs.2 (fun c a w ⟨f, R, M, _, _, hq⟩ => absurd hq (hQ c f R M)) (.inl ⟨hwt, hv⟩) ((hw.sel hM).weakR hR) (hk _ w hf' hw)
  · rw [if_neg hwt] at h1
    obtain ⟨f', hf', hk⟩ := h1
    exact wpAnyH_take hi hs.1.1 hs.1.2 hs.2 (fun c a w ⟨f, R, M, _, _, hq⟩ => absurd hq (hQ c f R M)) (.inr ⟨by simpa using hwt, rfl⟩) ((hw.sel hM).weakR hR) (hk _ w hf' hw)

theorem Wph.all {rs : List Nat} {fuel : Nat} {listed : Array Bool} (hr : Region.ready .any ops listed = rs) (hne : rs.isEmpty = false)
    (h : ∀ i ∈ rs, ∃ o, ops[i]? = some o ∧ Wpl .seq C ops [o] (fun e f' R' M' => match e with | .normal => (∀ F ∈ R0, F ∈ R') ∧ Sel M' M0 ∧ Wph C ops R0 M0 fuel (listed.setIfInBounds i true) Q f' R' M' | e => Q e f' R' M') f R M) :
    Wph C ops R0 M0 (fuel + 1) listed Q f R M := by
  intro a w ha hw
  refine wpAnyH_all hr (fun e => by subst e; cases hne) fun i hi => ?_
  obtain ⟨o, ho, h1⟩ := h i hi
  have h2 := h1 a w ha hw
  unfold wpOp
  simp only [ho]
  unfold wpList at h2
  split
  · rename_i hwt
    rw [if_pos hwt] at h2
    rcases h2 with h2 | ⟨h2, a0, w0, f0, R0', M0', k1, k2, k3⟩
    · refine .inl ?_
      have h3 := Oper.wp_mono (K' := fun a' w' => ∃ f' R' M', Fr C.n f' a' ∧ Sat C R' M' w' ∧ (∀ F ∈ R0, F ∈ R') ∧ Sel M' M0 ∧ Wph C ops R0 M0 fuel (listed.setIfInBounds i true) Q f' R' M')
        (fun a' w' hh => by
          obtain ⟨f', R', M', q1, q2, q3⟩ := hh
          exact ⟨f', R', M', q1, q2, q3.1, q3.2.1, q3.2.2⟩) h2
      have h4 := Oper.wp_mono (K' := fun a' w' => Sat C R0 M0 w' ∧ wpAnyH C.P .any ops (liftQ C Q) (Sat C R0 M0) fuel (listed.setIfInBounds i true) a' w')
        (fun a' w' ⟨f', R', M', q1, q2, q3, q4, q5⟩ => ⟨(q2.sel q4).weakR q3, q5 a' w' q1 q2⟩) h3
      -- the other exits
      have e : ∀ {K : Act → World → Prop} {Q1 Q2 : Exit → Act → World → Prop}, (∀ c a w, Q1 (.panic c) a w → Q2 (.panic c) a w) → (∀ a w, Q1 .outgrown a w → Q2 .outgrown a w) → o.wp C.P a w K Q1 → o.wp C.P a w K Q2 := by
        intro K Q1 Q2 hp hog hh
        unfold Oper.wp at hh ⊢
        generalize (execOp a.eval o).run C.P w = r at hh ⊢
        cases r with
        | ok n w' =>
          cases n <;> simp only [Oper.upon] at hh ⊢ <;>
            first
              | exact hh
              | exact Calls.mono hh (fun e w'' he => by
                  cases e with
                  | returned v => exact he
                  | panicked ch => exact hp _ _ _ he
                  | outgrown => obtain ⟨a1, w1, h1⟩ := he; exact ⟨a1, w1, hog _ _ h1⟩)
        | halt x w' => cases x <;> simp only [Oper.upon] at hh ⊢ <;> first | exact hh.elim | exact hp _ _ _ hh | exact hh
      exact e (fun c a w ⟨f', R', M', q1, q2, q3⟩ => ⟨f', R', M', q1, q2, q3⟩) (fun a w ⟨f', R', M', q1, q2, q3⟩ => ⟨f', R', M', q1, q2, q3⟩) h4
    · exact .inr ⟨h2, a0, w0, f0, R0', M0', k1, k2, k3⟩
  · rename_i hwt
    rw [if_neg hwt] at h2
    have h2' : liftQ C (fun e f' R' M' => match e with | .normal => (∀ F ∈ R0, F ∈ R') ∧ Sel M' M0 ∧ Wph C ops R0 M0 fuel (listed.setIfInBounds i true) Q f' R' M' | e => Q e f' R' M') .normal (a.put o.dst undef) w := h2
    obtain ⟨f', R', M', q1, q2, q3, q4, q5⟩ := h2'
    exact ⟨(q2.sel q4).weakR q3, q5 _ w q1 q2⟩

/-- one alone may come up -/
theorem Wph.one (i : Nat) {o : Oper} {fuel : Nat} {listed listed' : Array Bool} (hr : Region.ready .any ops listed = [i]) (hi : ops[i]? = some o) (hl : listed.setIfInBounds i true = listed')
    (h : Wpl .seq C ops [o] (fun e f' R' M' => match e with | .normal => (∀ F ∈ R0, F ∈ R') ∧ Sel M' M0 ∧ Wph C ops R0 M0 fuel listed' Q f' R' M' | e => Q e f' R' M') f R M) :
    Wph C ops R0 M0 (fuel + 1) listed Q f R M :=
  Wph.all hr rfl fun j hj => by
    rw [List.mem_singleton.1 hj]
    subst hl
    exact ⟨o, hi, h⟩
/-- one of two -/
theorem Wph.two (i j : Nat) {o o2 : Oper} {fuel : Nat} {listed l1 l2 : Array Bool} (hr : Region.ready .any ops listed = [i, j]) (hi : ops[i]? = some o) (hj : ops[j]? = some o2) (hl1 : listed.setIfInBounds i true = l1) (hl2 : listed.setIfInBounds j true = l2)
    (h1 : Wpl .seq C ops [o] (fun e f' R' M' => match e with | .normal => (∀ F ∈ R0, F ∈ R') ∧ Sel M' M0 ∧ Wph C ops R0 M0 fuel l1 Q f' R' M' | e => Q e f' R' M') f R M)
    (h2 : Wpl .seq C ops [o2] (fun e f' R' M' => match e with | .normal => (∀ F ∈ R0, F ∈ R') ∧ Sel M' M0 ∧ Wph C ops R0 M0 fuel l2 Q f' R' M' | e => Q e f' R' M') f R M) :
    Wph C ops R0 M0 (fuel + 1) listed Q f R M :=
  Wph.all hr rfl fun k hk => by
    subst hl1 hl2
    rcases List.mem_cons.1 hk with rfl | hk
    · exact ⟨o, hi, h1⟩
    · rw [List.mem_singleton.1 hk]; exact ⟨o2, hj, h2⟩

theorem Wph.done {fuel : Nat} {listed : Array Bool} (hr : Region.ready .any ops listed = []) (h : Q .normal f R M) : Wph C ops R0 M0 fuel listed Q f R M :=
  fun a w ha hw => wpAnyH_done hr ⟨f, R, M, ha, hw, h⟩ fuel
end rules
section lds
variable {q : Md} {C : Cx} {ops : Array Oper} {rest : List Oper} {Q : Exit → Env → List Frag → List Frag → Prop} {f : Env} {R M : List Frag}
variable {d : Nat} {ty : TypeId} {pos : String} {af : Array Edge}
theorem Wpl.ld0x0 {x : Operand} {T E : TypeId} {fz : Nat × Nat} {by_ : Nat} {z : Value} [hT : CellT C.P T z by_] {b off : Nat} {c : Array Value} {v : Value} (hd : Nat.blt d C.n = true) (hx : f.ev x = .pointer (some ⟨b, off, none⟩)) (hk : M[0]?.bind (·[0]?) = some (b, .cells c E fz))
    (hc : c.toList[off]? = some v) (k : Wpl q C ops rest Q (f.upd d v) R M) : Wpl q C ops (⟨some d, .load T x, ty, pos, af, none⟩ :: rest) Q f R M :=
  Wpl.load hd hT.h hx (Known.m 0 0 hk) hc k
theorem Wpl.st0_0 {x y : Operand} {T E : TypeId} {by_ : Nat} {z : Value} [hT : CellT C.P T z by_] {b off : Nat} {F : Frag} {c : Array Value} {v : Value}
    (hx : f.ev x = .pointer (some ⟨b, off, none⟩)) (hi : M[0]? = some F) (hj : F[0]? = some (b, .cells c E (0, 0))) (hy : f.ev y = v) (hone : v.oneCell' = true)
    (hb : off < c.size)
    (k : Wpl .seq C ops rest Q f R (M.set 0 (F.set 0 (b, .cells (c.toList.set off v).toArray E (0, 0))))) :
    Wpl .seq C ops (⟨none, .store T x y, ty, pos, af, none⟩ :: rest) Q f R M := Wpl.store hT.h hx hy hi hj hone hb k
theorem Wpl.ld0x1 {x : Operand} {T E : TypeId} {fz : Nat × Nat} {by_ : Nat} {z : Value} [hT : CellT C.P T z by_] {b off : Nat} {c : Array Value} {v : Value} (hd : Nat.blt d C.n = true) (hx : f.ev x = .pointer (some ⟨b, off, none⟩)) (hk : M[0]?.bind (·[1]?) = some (b, .cells c E fz))
    (hc : c.toList[off]? = some v) (k : Wpl q C ops rest Q (f.upd d v) R M) : Wpl q C ops (⟨some d, .load T x, ty, pos, af, none⟩ :: rest) Q f R M :=
  Wpl.load hd hT.h hx (Known.m 0 1 hk) hc k
theorem Wpl.ldR0 {x : Operand} {T E : TypeId} {fz : Nat × Nat} {by_ : Nat} {z : Value} [hT : CellT C.P T z by_] {b off : Nat} {c : Array Value} {v : Value} (hd : Nat.blt d C.n = true) (hx : f.ev x = .pointer (some ⟨b, off, none⟩)) (hk : R[0]?.bind (·[0]?) = some (b, .cells c E fz))
    (hc : c.toList[off]? = some v) (k : Wpl q C ops rest Q (f.upd d v) R M) : Wpl q C ops (⟨some d, .load T x, ty, pos, af, none⟩ :: rest) Q f R M :=
  Wpl.load hd hT.h hx (Known.r 0 0 hk) hc k
theorem Wpl.ld1x0 {x : Operand} {T E : TypeId} {fz : Nat × Nat} {by_ : Nat} {z : Value} [hT : CellT C.P T z by_] {b off : Nat} {c : Array Value} {v : Value} (hd : Nat.blt d C.n = true) (hx : f.ev x = .pointer (some ⟨b, off, none⟩)) (hk : M[1]?.bind (·[0]?) = some (b, .cells c E fz))
    (hc : c.toList[off]? = some v) (k : Wpl q C ops rest Q (f.upd d v) R M) : Wpl q C ops (⟨some d, .load T x, ty, pos, af, none⟩ :: rest) Q f R M :=
  Wpl.load hd hT.h hx (Known.m 1 0 hk) hc k
theorem Wpl.st1_0 {x y : Operand} {T E : TypeId} {by_ : Nat} {z : Value} [hT : CellT C.P T z by_] {b off : Nat} {F : Frag} {c : Array Value} {v : Value}
    (hx : f.ev x = .pointer (some ⟨b, off, none⟩)) (hi : M[1]? = some F) (hj : F[0]? = some (b, .cells c E (0, 0))) (hy : f.ev y = v) (hone : v.oneCell' = true)
    (hb : off < c.size)
    (k : Wpl .seq C ops rest Q f R (M.set 1 (F.set 0 (b, .cells (c.toList.set off v).toArray E (0, 0))))) :
    Wpl .seq C ops (⟨none, .store T x y, ty, pos, af, none⟩ :: rest) Q f R M := Wpl.store hT.h hx hy hi hj hone hb k
theorem Wpl.ld1x1 {x : Operand} {T E : TypeId} {fz : Nat × Nat} {by_ : Nat} {z : Value} [hT : CellT C.P T z by_] {b off : Nat} {c : Array Value} {v : Value} (hd : Nat.blt d C.n = true) (hx : f.ev x = .pointer (some ⟨b, off, none⟩)) (hk : M[1]?.bind (·[1]?) = some (b, .cells c E fz))
    (hc : c.toList[off]? = some v) (k : Wpl q C ops rest Q (f.upd d v) R M) : Wpl q C ops (⟨some d, .load T x, ty, pos, af, none⟩ :: rest) Q f R M :=
  Wpl.load hd hT.h hx (Known.m 1 1 hk) hc k
theorem Wpl.ldR1 {x : Operand} {T E : TypeId} {fz : Nat × Nat} {by_ : Nat} {z : Value} [hT : CellT C.P T z by_] {b off : Nat} {c : Array Value} {v : Value} (hd : Nat.blt d C.n = true) (hx : f.ev x = .pointer (some ⟨b, off, none⟩)) (hk : R[1]?.bind (·[0]?) = some (b, .cells c E fz))
    (hc : c.toList[off]? = some v) (k : Wpl q C ops rest Q (f.upd d v) R M) : Wpl q C ops (⟨some d, .load T x, ty, pos, af, none⟩ :: rest) Q f R M :=
  Wpl.load hd hT.h hx (Known.r 1 0 hk) hc k
theorem Wpl.ld2x0 {x : Operand} {T E : TypeId} {fz : Nat × Nat} {by_ : Nat} {z : Value} [hT : CellT C.P T z by_] {b off : Nat} {c : Array Value} {v : Value} (hd : Nat.blt d C.n = true) (hx : f.ev x = .pointer (some ⟨b, off, none⟩)) (hk : M[2]?.bind (·[0]?) = some (b, .cells c E fz))
    (hc : c.toList[off]? = some v) (k : Wpl q C ops rest Q (f.upd d v) R M) : Wpl q C ops (⟨some d, .load T x, ty, pos, af, none⟩ :: rest) Q f R M :=
  Wpl.load hd hT.h hx (Known.m 2 0 hk) hc k
theorem Wpl.st2_0 {x y : Operand} {T E : TypeId} {by_ : Nat} {z : Value} [hT : CellT C.P T z by_] {b off : Nat} {F : Frag} {c : Array Value} {v : Value}
    (hx : f.ev x = .pointer (some ⟨b, off, none⟩)) (hi : M[2]? = some F) (hj : F[0]? = some (b, .cells c E (0, 0))) (hy : f.ev y = v) (hone : v.oneCell' = true)
    (hb : off < c.size)
    (k : Wpl .seq C ops rest Q f R (M.set 2 (F.set 0 (b, .cells (c.toList.set off v).toArray E (0, 0))))) :
    Wpl .seq C ops (⟨none, .store T x y, ty, pos, af, none⟩ :: rest) Q f R M := Wpl.store hT.h hx hy hi hj hone hb k
theorem Wpl.ld2x1 {x : Operand} {T E : TypeId} {fz : Nat × Nat} {by_ : Nat} {z : Value} [hT : CellT C.P T z by_] {b off : Nat} {c : Array Value} {v : Value} (hd : Nat.blt d C.n = true) (hx : f.ev x = .pointer (some ⟨b, off, none⟩)) (hk : M[2]?.bind (·[1]?) = some (b, .cells c E fz))
    (hc : c.toList[off]? = some v) (k : Wpl q C ops rest Q (f.upd d v) R M) : Wpl q C ops (⟨some d, .load T x, ty, pos, af, none⟩ :: rest) Q f R M :=
  Wpl.load hd hT.h hx (Known.m 2 1 hk) hc k
theorem Wpl.ldR2 {x : Operand} {T E : TypeId} {fz : Nat × Nat} {by_ : Nat} {z : Value} [hT : CellT C.P T z by_] {b off : Nat} {c : Array Value} {v : Value} (hd : Nat.blt d C.n = true) (hx : f.ev x = .pointer (some ⟨b, off, none⟩)) (hk : R[2]?.bind (·[0]?) = some (b, .cells c E fz))
    (hc : c.toList[off]? = some v) (k : Wpl q C ops rest Q (f.upd d v) R M) : Wpl q C ops (⟨some d, .load T x, ty, pos, af, none⟩ :: rest) Q f R M :=
  Wpl.load hd hT.h hx (Known.r 2 0 hk) hc k
theorem Wpl.ld3x0 {x : Operand} {T E : TypeId} {fz : Nat × Nat} {by_ : Nat} {z : Value} [hT : CellT C.P T z by_] {b off : Nat} {c : Array Value} {v : Value} (hd : Nat.blt d C.n = true) (hx : f.ev x = .pointer (some ⟨b, off, none⟩)) (hk : M[3]?.bind (·[0]?) = some (b, .cells c E fz))
    (hc : c.toList[off]? = some v) (k : Wpl q C ops rest Q (f.upd d v) R M) : Wpl q C ops (⟨some d, .load T x, ty, pos, af, none⟩ :: rest) Q f R M :=
  Wpl.load hd hT.h hx (Known.m 3 0 hk) hc k
theorem Wpl.st3_0 {x y : Operand} {T E : TypeId} {by_ : Nat} {z : Value} [hT : CellT C.P T z by_] {b off : Nat} {F : Frag} {c : Array Value} {v : Value}
    (hx : f.ev x = .pointer (some ⟨b, off, none⟩)) (hi : M[3]? = some F) (hj : F[0]? = some (b, .cells c E (0, 0))) (hy : f.ev y = v) (hone : v.oneCell' = true)
    (hb : off < c.size)
    (k : Wpl .seq C ops rest Q f R (M.set 3 (F.set 0 (b, .cells (c.toList.set off v).toArray E (0, 0))))) :
    Wpl .seq C ops (⟨none, .store T x y, ty, pos, af, none⟩ :: rest) Q f R M := Wpl.store hT.h hx hy hi hj hone hb k
theorem Wpl.ld3x1 {x : Operand} {T E : TypeId} {fz : Nat × Nat} {by_ : Nat} {z : Value} [hT : CellT C.P T z by_] {b off : Nat} {c : Array Value} {v : Value} (hd : Nat.blt d C.n = true) (hx : f.ev x = .pointer (some ⟨b, off, none⟩)) (hk : M[3]?.bind (·[1]?) = some (b, .cells c E fz))
    (hc : c.toList[off]? = some v) (k : Wpl q C ops rest Q (f.upd d v) R M) : Wpl q C ops (⟨some d, .load T x, ty, pos, af, none⟩ :: rest) Q f R M :=
  Wpl.load hd hT.h hx (Known.m 3 1 hk) hc k
theorem Wpl.ldR3 {x : Operand} {T E : TypeId} {fz : Nat × Nat} {by_ : Nat} {z : Value} [hT : CellT C.P T z by_] {b off : Nat} {c : Array Value} {v : Value} (hd : Nat.blt d C.n = true) (hx : f.ev x = .pointer (some ⟨b, off, none⟩)) (hk : R[3]?.bind (·[0]?) = some (b, .cells c E fz))
    (hc : c.toList[off]? = some v) (k : Wpl q C ops rest Q (f.upd d v) R M) : Wpl q C ops (⟨some d, .load T x, ty, pos, af, none⟩ :: rest) Q f R M :=
  Wpl.load hd hT.h hx (Known.r 3 0 hk) hc k
theorem Wpl.ld4x0 {x : Operand} {T E : TypeId} {fz : Nat × Nat} {by_ : Nat} {z : Value} [hT : CellT C.P T z by_] {b off : Nat} {c : Array Value} {v : Value} (hd : Nat.blt d C.n = true) (hx : f.ev x = .pointer (some ⟨b, off, none⟩)) (hk : M[4]?.bind (·[0]?) = some (b, .cells c E fz))
    (hc : c.toList[off]? = some v) (k : Wpl q C ops rest Q (f.upd d v) R M) : Wpl q C ops (⟨some d, .load T x, ty, pos, af, none⟩ :: rest) Q f R M :=
  Wpl.load hd hT.h hx (Known.m 4 0 hk) hc k
theorem Wpl.st4_0 {x y : Operand} {T E : TypeId} {by_ : Nat} {z : Value} [hT : CellT C.P T z by_] {b off : Nat} {F : Frag} {c : Array Value} {v : Value}
    (hx : f.ev x = .pointer (some ⟨b, off, none⟩)) (hi : M[4]? = some F) (hj : F[0]? = some (b, .cells c E (0, 0))) (hy : f.ev y = v) (hone : v.oneCell' = true)
    (hb : off < c.size)
    (k : Wpl .seq C ops rest Q f R (M.set 4 (F.set 0 (b, .cells (c.toList.set off v).toArray E (0, 0))))) :
    Wpl .seq C ops (⟨none, .store T x y, ty, pos, af, none⟩ :: rest) Q f R M := Wpl.store hT.h hx hy hi hj hone hb k
theorem Wpl.ld4x1 {x : Operand} {T E : TypeId} {fz : Nat × Nat} {by_ : Nat} {z : Value} [hT : CellT C.P T z by_] {b off : Nat} {c : Array Value} {v : Value} (hd : Nat.blt d C.n = true) (hx : f.ev x = .pointer (some ⟨b, off, none⟩)) (hk : M[4]?.bind (·[1]?) = some (b, .cells c E fz))
    (hc : c.toList[off]? = some v) (k : Wpl q C ops rest Q (f.upd d v) R M) : Wpl q C ops (⟨some d, .load T x, ty, pos, af, none⟩ :: rest) Q f R M :=
  Wpl.load hd hT.h hx (Known.m 4 1 hk) hc k
theorem Wpl.ldR4 {x : Operand} {T E : TypeId} {fz : Nat × Nat} {by_ : Nat} {z : Value} [hT : CellT C.P T z by_] {b off : Nat} {c : Array Value} {v : Value} (hd : Nat.blt d C.n = true) (hx : f.ev x = .pointer (some ⟨b, off, none⟩)) (hk : R[4]?.bind (·[0]?) = some (b, .cells c E fz))
    (hc : c.toList[off]? = some v) (k : Wpl q C ops rest Q (f.upd d v) R M) : Wpl q C ops (⟨some d, .load T x, ty, pos, af, none⟩ :: rest) Q f R M :=
  Wpl.load hd hT.h hx (Known.r 4 0 hk) hc k
theorem Wpl.ld5x0 {x : Operand} {T E : TypeId} {fz : Nat × Nat} {by_ : Nat} {z : Value} [hT : CellT C.P T z by_] {b off : Nat} {c : Array Value} {v : Value} (hd : Nat.blt d C.n = true) (hx : f.ev x = .pointer (some ⟨b, off, none⟩)) (hk : M[5]?.bind (·[0]?) = some (b, .cells c E fz))
    (hc : c.toList[off]? = some v) (k : Wpl q C ops rest Q (f.upd d v) R M) : Wpl q C ops (⟨some d, .load T x, ty, pos, af, none⟩ :: rest) Q f R M :=
  Wpl.load hd hT.h hx (Known.m 5 0 hk) hc k
theorem Wpl.st5_0 {x y : Operand} {T E : TypeId} {by_ : Nat} {z : Value} [hT : CellT C.P T z by_] {b off : Nat} {F : Frag} {c : Array Value} {v : Value}
    (hx : f.ev x = .pointer (some ⟨b, off, none⟩)) (hi : M[5]? = some F) (hj : F[0]? = some (b, .cells c E (0, 0))) (hy : f.ev y = v) (hone : v.oneCell' = true)
    (hb : off < c.size)
    (k : Wpl .seq C ops rest Q f R (M.set 5 (F.set 0 (b, .cells (c.toList.set off v).toArray E (0, 0))))) :
    Wpl .seq C ops (⟨none, .store T x y, ty, pos, af, none⟩ :: rest) Q f R M := Wpl.store hT.h hx hy hi hj hone hb k
theorem Wpl.ld5x1 {x : Operand} {T E : TypeId} {fz : Nat × Nat} {by_ : Nat} {z : Value} [hT : CellT C.P T z by_] {b off : Nat} {c : Array Value} {v : Value} (hd : Nat.blt d C.n = true) (hx : f.ev x = .pointer (some ⟨b, off, none⟩)) (hk : M[5]?.bind (·[1]?) = some (b, .cells c E fz))
    (hc : c.toList[off]? = some v) (k : Wpl q C ops rest Q (f.upd d v) R M) : Wpl q C ops (⟨some d, .load T x, ty, pos, af, none⟩ :: rest) Q f R M :=
  Wpl.load hd hT.h hx (Known.m 5 1 hk) hc k
theorem Wpl.ldR5 {x : Operand} {T E : TypeId} {fz : Nat × Nat} {by_ : Nat} {z : Value} [hT : CellT C.P T z by_] {b off : Nat} {c : Array Value} {v : Value} (hd : Nat.blt d C.n = true) (hx : f.ev x = .pointer (some ⟨b, off, none⟩)) (hk : R[5]?.bind (·[0]?) = some (b, .cells c E fz))
    (hc : c.toList[off]? = some v) (k : Wpl q C ops rest Q (f.upd d v) R M) : Wpl q C ops (⟨some d, .load T x, ty, pos, af, none⟩ :: rest) Q f R M :=
  Wpl.load hd hT.h hx (Known.r 5 0 hk) hc k
end lds
end Go.SL
namespace Go.SL
open Go.RowKit

class PtrT (P : Program) (T : TypeId) : Prop where h : ∃ e, P.underlying T = some (.pointer e)
class IfaceT (P : Program) (T : TypeId) : Prop where h : ∃ ms, P.underlying T = some (.interface ms)
class BoolT (P : Program) (T : TypeId) : Prop where h : P.underlying T = some .bool

section rules
variable {q : Md} {C : Cx} {ops : Array Oper} {rest : List Oper} {Q : Exit → Env → List Frag → List Frag → Prop} {f : Env} {R M : List Frag}
variable {d : Nat} {ty T T2 : TypeId} {pos : String} {af : Array Edge} {x y : Operand}

theorem run_equal {P : Program} {T : TypeId} {t : TypeDesc} (h : P.underlying T = some t) (w : World) : (Go.underlying T).run P w = .ok t w := run_underlying h w

/-! nil or not -/
theorem Wpl.cmpRun {op : BinOp} {u v : Value} {t : Bool} (hop : op = .eql ∨ op = .neq) (hd : Nat.blt d C.n = true) (hx : f.ev x = u) (hy : f.ev y = v)
    (hg : ∀ w, (eqGuard op T x y u v).run C.P w = .ok () w) (hr : ∀ w, (binOp op T u v).run C.P w = .ok (.bool t) w)
    (k1 : Wpl q C ops rest Q (f.upd d (.bool t)) R M) : Wpl q C ops (⟨some d, .binOp op T x y T2, ty, pos, af, none⟩ :: rest) Q f R M := by
  refine Wpl.val rfl hd _ (fun w _ => ?_) k1
  rcases hop with rfl | rfl <;> simp [execOp, hx, hy, hg, hr]
theorem guard_ptr (op : BinOp) (p p' : Option Addr) {P : Program} (w : World) : (eqGuard op T x y (.pointer p) (.pointer p')).run P w = .ok () w := by
  cases op <;> simp [eqGuard]
theorem guard_bool (op : BinOp) (p p' : Bool) {P : Program} (w : World) : (eqGuard op T x y (.bool p) (.bool p')).run P w = .ok () w := by
  cases op <;> simp [eqGuard]
theorem guard_err (op : BinOp) (t : TypeId) (v : Value) {P : Program} (w : World) : (eqGuard op T x y (.iface t v) .nilIface).run P w = .ok () w := by
  cases op <;> simp [eqGuard]
theorem guard_err2 (op : BinOp) (t t2 : TypeId) (v v2 : Value) {P : Program} (w : World) : (eqGuard op T x y (.iface t v) (.iface t2 v2)).run P w = .ok () w := by
  cases op <;> simp [eqGuard]
theorem guard_nil (op : BinOp) {P : Program} (w : World) : (eqGuard op T x (.const .nilIface) .nilIface .nilIface).run P w = .ok () w := by
  cases op <;> simp [eqGuard]
theorem PtrT.hp {P : Program} {T : TypeId} (h : PtrT P T) : P.underlying T = some (.pointer (P.pointee T)) := by
  obtain ⟨e, he⟩ := h.h
  simp [Program.pointee, he]
theorem IfaceT.hp {P : Program} {T : TypeId} (h : IfaceT P T) : P.underlying T = some (.interface (P.methodsAt T)) := by
  obtain ⟨e, he⟩ := h.h
  simp [Program.methodsAt, he]
theorem Wpl.ptrEq [hT : PtrT C.P T] {p : Option Addr} {t : Bool} (hd : Nat.blt d C.n = true) (hx : f.ev x = .pointer p) (hy : f.ev y = .pointer none) (ht : p.isNone = t)
    (k1 : Wpl q C ops rest Q (f.upd d (.bool t)) R M) : Wpl q C ops (⟨some d, .binOp .eql T x y T2, ty, pos, af, none⟩ :: rest) Q f R M :=
  Wpl.cmpRun (.inl rfl) hd hx hy (guard_ptr _ _ _) (fun w => by rw [← ht]; exact run_eql_pointer_nil w T p hT.hp) k1
theorem Wpl.ptrNe [hT : PtrT C.P T] {p : Option Addr} {t : Bool} (hd : Nat.blt d C.n = true) (hx : f.ev x = .pointer p) (hy : f.ev y = .pointer none) (ht : (!p.isNone) = t)
    (k1 : Wpl q C ops rest Q (f.upd d (.bool t)) R M) : Wpl q C ops (⟨some d, .binOp .neq T x y T2, ty, pos, af, none⟩ :: rest) Q f R M :=
  Wpl.cmpRun (.inr rfl) hd hx hy (guard_ptr _ _ _) (fun w => by rw [← ht]; exact run_neq_pointer_nil w T p hT.hp) k1
theorem Wpl.errEqNil [hT : IfaceT C.P T] (hd : Nat.blt d C.n = true) (hx : f.ev x = .nilIface)
    (k1 : Wpl q C ops rest Q (f.upd d (.bool true)) R M) : Wpl q C ops (⟨some d, .binOp .eql T x (.const .nilIface) T2, ty, pos, af, none⟩ :: rest) Q f R M :=
  Wpl.cmpRun (.inl rfl) hd hx rfl (guard_nil _) (fun w => run_eql_nil_nil w T hT.hp) k1
theorem Wpl.errEq [hT : IfaceT C.P T] {t : TypeId} {v : Value} (hd : Nat.blt d C.n = true) (hx : f.ev x = .iface t v)
    (k1 : Wpl q C ops rest Q (f.upd d (.bool false)) R M) : Wpl q C ops (⟨some d, .binOp .eql T x (.const .nilIface) T2, ty, pos, af, none⟩ :: rest) Q f R M :=
  Wpl.cmpRun (.inl rfl) hd hx rfl (guard_err _ _ _) (fun w => run_eql_held_nil w T t v hT.hp) k1
theorem Wpl.errNeNil [hT : IfaceT C.P T] (hd : Nat.blt d C.n = true) (hx : f.ev x = .nilIface)
    (k1 : Wpl q C ops rest Q (f.upd d (.bool false)) R M) : Wpl q C ops (⟨some d, .binOp .neq T x (.const .nilIface) T2, ty, pos, af, none⟩ :: rest) Q f R M :=
  Wpl.cmpRun (.inr rfl) hd hx rfl (guard_nil _) (fun w => run_neq_nil_nil w T hT.hp) k1
theorem Wpl.errNe [hT : IfaceT C.P T] {t : TypeId} {v : Value} (hd : Nat.blt d C.n = true) (hx : f.ev x = .iface t v)
    (k1 : Wpl q C ops rest Q (f.upd d (.bool true)) R M) : Wpl q C ops (⟨some d, .binOp .neq T x (.const .nilIface) T2, ty, pos, af, none⟩ :: rest) Q f R M :=
  Wpl.cmpRun (.inr rfl) hd hx rfl (guard_err _ _ _) (fun w => run_neq_held_nil w T t v hT.hp) k1
theorem Wpl.boolEq [hT : BoolT C.P T] {s t u : Bool} (hd : Nat.blt d C.n = true) (hx : f.ev x = .bool s) (hy : f.ev y = .bool t) (hu : (s == t) = u)
    (k1 : Wpl q C ops rest Q (f.upd d (.bool u)) R M) : Wpl q C ops (⟨some d, .binOp .eql T x y T2, ty, pos, af, none⟩ :: rest) Q f R M :=
  Wpl.cmpRun (.inl rfl) hd hx hy (guard_bool _ _ _) (fun w => by rw [← hu]; exact run_eql_bool w T s t hT.h) k1
theorem Wpl.boolNe [hT : BoolT C.P T] {s t u : Bool} (hd : Nat.blt d C.n = true) (hx : f.ev x = .bool s) (hy : f.ev y = .bool t) (hu : (!(s == t)) = u)
    (k1 : Wpl q C ops rest Q (f.upd d (.bool u)) R M) : Wpl q C ops (⟨some d, .binOp .neq T x y T2, ty, pos, af, none⟩ :: rest) Q f R M :=
  Wpl.cmpRun (.inr rfl) hd hx hy (guard_bool _ _ _) (fun w => by rw [← hu]; exact run_neq_bool w T s t hT.h) k1

theorem Row.one {F : Frag} {k n : Nat} {v : Value} {xs : List Value} (h : Row F k v n xs) : v.oneCell' = true := by
  obtain ⟨a, cap, rfl⟩ := h.len
  rfl
/-- an integer appended to one's own row -/
theorem Wpl.appI (i : Nat) {s x : Operand} {T E ty2 : TypeId} {pos2 : String} {af2 : Array Edge} {d2 n bytes : Nat} {z v : Value} {F : Frag} {k : IntKind} {l : List Int} {m : Int} [hT : SliceT C.P T E] [hE : AnyT C.P E 1 z bytes] (hd : Nat.blt d C.n = true) (hd2 : Nat.blt d2 C.n = true)
    (hs : f.ev s = v) (hx : f.ev x = .int k m) (hsd : (f.upd d undef).ev s = v) (hi : M[i]? = some F) (hrow : OwnRow E 1 F v n (ints k l)) (hb : (n + 1) * bytes ≤ 140737488355328) (hm63 : n < 1000000000000000000)
    (k1 : ∀ p v' F', OwnRow E 1 F' v' (n + 1) (ints k (l ++ [m])) → Wpl .seq C ops rest Q ((f.upd d p).upd d2 v') R (M.set i F')) :
    Wpl .seq C ops (⟨some d, .buildSlice T 1 #[(0, x)], ty, pos, af, none⟩ :: ⟨some d2, .call ⟨.builtin .append, #[s, .tmp d], #[T, T]⟩, ty2, pos2, af2, none⟩ :: rest) Q f R M :=
  Wpl.app1 i hd hd2 hrow hi hs hx (us := [.int k m]) rfl hsd (by decide) rfl (fun y hy => by rw [List.mem_singleton.1 hy]; rfl) hb (by unfold maxLen; omega)
    (fun p v' F' h => k1 p v' F' (by rw [← ints_snoc]; exact h))
theorem OwnRow.cast {E : TypeId} {k : Nat} {F : Frag} {v : Value} {n n' : Nat} {xs xs' : List Value} (h : OwnRow E k F v n xs) (hn : n = n') (hx : xs = xs') : OwnRow E k F v n' xs' := by
  subst hn hx
  exact h
theorem Wpl.shrV {k k2 : IntKind} {m n w : Int} (hd : Nat.blt d C.n = true) (hx : f.ev x = .int k m) (hy : f.ev y = .int k2 n) (h0 : 0 ≤ n ∧ n ≤ k.bits) (hw : m / 2 ^ n.toNat = w)
    (k1 : Wpl q C ops rest Q (f.upd d (.int k w)) R M) : Wpl q C ops (⟨some d, .binOp .shr T x y T2, ty, pos, af, none⟩ :: rest) Q f R M :=
  Wpl.shr hd hx hy h0 (by rw [hw]; exact k1)
theorem Wpl.andV {m n w : Int} (hd : Nat.blt d C.n = true) (hx : f.ev x = .int .i64 m) (hy : f.ev y = .int .i64 n) (h1 : 0 ≤ m ∧ m ≤ 9223372036854775807) (h2 : 0 ≤ n ∧ n ≤ 9223372036854775807) (hw : ((m.toNat &&& n.toNat : Nat) : Int) = w)
    (k1 : Wpl q C ops rest Q (f.upd d (.int .i64 w)) R M) : Wpl q C ops (⟨some d, .binOp .and T x y T2, ty, pos, af, none⟩ :: rest) Q f R M :=
  Wpl.and hd hx hy h1 h2 (by rw [hw]; exact k1)
/-! max, min -/
theorem Wpl.maxI {m n : Int} {k k' : IntKind} {ats : Array TypeId} (hd : Nat.blt d C.n = true) (hx : f.ev x = .int k m) (hy : f.ev y = .int k' n)
    (k1 : Wpl q C ops rest Q (f.upd d (.int k (max m n))) R M) : Wpl q C ops (⟨some d, .call ⟨.builtin .max, #[x, y], ats⟩, ty, pos, af, none⟩ :: rest) Q f R M :=
  Wpl.val rfl hd _ (fun w _ => by
    have e : max m n = if n > m then n else m := by split <;> omega
    simp [execOp, resolve, invoke, builtin, hx, hy, run_max_int2, e]) k1
theorem Wpl.minI {m n : Int} {k k' : IntKind} {ats : Array TypeId} (hd : Nat.blt d C.n = true) (hx : f.ev x = .int k m) (hy : f.ev y = .int k' n)
    (k1 : Wpl q C ops rest Q (f.upd d (.int k (min m n))) R M) : Wpl q C ops (⟨some d, .call ⟨.builtin .min, #[x, y], ats⟩, ty, pos, af, none⟩ :: rest) Q f R M :=
  Wpl.val rfl hd _ (fun w _ => by
    have e : min m n = if n < m then n else m := by split <;> omega
    simp [execOp, resolve, invoke, builtin, hx, hy, run_min_int2, e]) k1
theorem guard_slice (op : BinOp) (a a' : Option Addr) (n c n' c' : Nat) {P : Program} (w : World) : (eqGuard op T x y (.slice a n c) (.slice a' n' c')).run P w = .ok () w := by
  cases op <;> simp [eqGuard]
theorem Wpl.sliceEq {E : TypeId} [hT : SliceT C.P T E] {a : Option Addr} {n c n' c' : Nat} {t : Bool} (hd : Nat.blt d C.n = true) (hx : f.ev x = .slice a n c) (hy : f.ev y = .slice none n' c') (ht : a.isNone = t)
    (k1 : Wpl q C ops rest Q (f.upd d (.bool t)) R M) : Wpl q C ops (⟨some d, .binOp .eql T x y T2, ty, pos, af, none⟩ :: rest) Q f R M :=
  Wpl.cmpRun (.inl rfl) hd hx hy (guard_slice _ _ _ _ _ _ _) (fun w => by rw [← ht]; exact Lib.run_eql_slice_nil w T E a n c n' c' hT.h) k1
theorem Wpl.stAgg0 {E : TypeId} {by_ n : Nat} {z : Value} [hT : AggT C.P T n z by_] {b : Nat} {F : Frag} {c cs : Array Value}
    (hx : f.ev x = .pointer (some ⟨b, 0, none⟩)) (hi : M[0]? = some F) (hj : F[0]? = some (b, .cells c E (0, 0))) (hy : f.ev y = .agg cs) (hn : cs.size = n) (hone : ∀ u ∈ cs.toList, u.oneCell' = true) (hc : c.size = n)
    (k : Wpl .seq C ops rest Q f R (M.set 0 (F.set 0 (b, .cells cs E (0, 0))))) :
    Wpl .seq C ops (⟨none, .store T x y, ty, pos, af, none⟩ :: rest) Q f R M := Wpl.stAgg 0 0 hx hi hj hy hn hone hc k
theorem one_nil : ∀ u ∈ ([] : List Value), u.oneCell' = true := fun u h => by cases h
theorem one_cons {v : Value} {l : List Value} (h : v.oneCell' = true) (k : ∀ u ∈ l, u.oneCell' = true) : ∀ u ∈ v :: l, u.oneCell' = true := fun u hu => by
  rcases List.mem_cons.1 hu with rfl | hu
  · exact h
  · exact k u hu
theorem Wpl.lit0 {E : TypeId} {k bytes : Nat} {z : Value} [hT : SliceT C.P T E] [hE : AnyT C.P E k z bytes] (hd : Nat.blt d C.n = true)
    (k1 : ∀ v F, OwnRow E k F v 0 [] → Wpl .seq C ops rest Q (f.upd d v) R (F :: M)) :
    Wpl .seq C ops (⟨some d, .buildSlice T 0 #[], ty, pos, af, none⟩ :: rest) Q f R M :=
  Wpl.newBlock rfl rfl hd (.cells #[] E (0, 0)) (fun b => .slice (some ⟨b, 0, none⟩) 0 0) (fun w hw => by
    obtain ⟨agg, hE'⟩ := hE.h
    simp [execOp, Instr.buildSlice, run_underlying hT.h, hE'.run_size, newRow, run_newObj, Instr.fill]
    rw [show Array.map (fun _ => (default : Value)) (Array.range 0) = #[] from by apply Array.eq_empty_of_size_eq_zero; simp]) (fun b => k1 _ _ ⟨by simp, .inr ⟨b, 0, #[], rfl, rfl, Nat.le_refl _, by unfold maxLen; omega, by simp, by simp⟩⟩)
/-! the address of a place of a row, for a load under a guard -/
def Pts (F : Frag) (p v : Value) : Prop := ∃ b off c E fz, p = .pointer (some ⟨b, off, none⟩) ∧ (b, Obj.cells c E fz) ∈ F ∧ c.toList[off]? = some v
theorem Wpl.ldP {E : TypeId} {by_ : Nat} {z p v : Value} {F : Frag} [hE : CellT C.P E z by_] (hd : Nat.blt d C.n = true) (hx : f.ev x = p) (hp : Pts F p v) (hF : HasF R M F)
    (k1 : Wpl q C ops rest Q (f.upd d v) R M) : Wpl q C ops (⟨some d, .load E x, ty, pos, af, none⟩ :: rest) Q f R M := by
  obtain ⟨b, off, c, E', fz, rfl, hm, hc⟩ := hp
  exact Wpl.load hd hE.h hx ⟨F, hF, hm⟩ hc k1
theorem Wpl.idxA {s i : Operand} {d2 : Nat} {E ty2 : TypeId} {pos2 : String} {af2 : Array Edge} {g2 : Option (Nat × Bool)} {by_ : Nat} {z : Value} [hT : SliceT C.P T E] [hE : CellT C.P E z by_] {F : Frag} {v : Value} {ki k : IntKind} {m : Int} {l : List Int} {n : Nat}
    (hd : Nat.blt d C.n = true) (hs : f.ev s = v) (hi : f.ev i = .int ki m) (hrow : Row F 1 v n (ints k l)) (h0 : 0 ≤ m) (h1 : m < l.length)
    (k1 : ∀ p (hm : m.toNat < l.length), Pts F p (.int k (l[m.toNat]'hm)) → Wpl q C ops (⟨some d2, .load E (.tmp d), ty2, pos2, af2, g2⟩ :: rest) Q (f.upd d p) R M) :
    Wpl q C ops (⟨some d, .indexAddr T s i, ty, pos, af, none⟩ :: ⟨some d2, .load E (.tmp d), ty2, pos2, af2, g2⟩ :: rest) Q f R M := by
  have hn : n = l.length := by have := hrow.1; rw [ints_length] at this; omega
  have hlt : m.toNat < l.length := by omega
  refine Wpl.indexAddr hd hT.h hE.h hs hrow hi ⟨h0, by omega⟩ fun b off c E' fz hp hc => k1 _ hlt ⟨b, off, c, E', fz, rfl, hp, ?_⟩
  have := hc 0 (by omega)
  simp only [Nat.add_zero, Nat.mul_one] at this
  simp only [Array.getElem?_toList, this, ints, List.getElem?_map, List.getElem?_eq_getElem hlt, Option.map_some]
theorem Wpl.idxAN {s i : Operand} {d2 : Nat} {E ty2 : TypeId} {pos2 : String} {af2 : Array Edge} {g2 : Option (Nat × Bool)} {by_ : Nat} {z : Value} [hT : SliceT C.P T E] [hE : CellT C.P E z by_] {F : Frag} {v : Value} {ki k : IntKind} {m : Nat} {l : List Int} {n : Nat}
    (hd : Nat.blt d C.n = true) (hs : f.ev s = v) (hi : f.ev i = .int ki (m : Int)) (hrow : Row F 1 v n (ints k l)) (h1 : m < l.length)
    (k1 : ∀ p (hm : m < l.length), Pts F p (.int k (l[m]'hm)) → Wpl q C ops (⟨some d2, .load E (.tmp d), ty2, pos2, af2, g2⟩ :: rest) Q (f.upd d p) R M) :
    Wpl q C ops (⟨some d, .indexAddr T s i, ty, pos, af, none⟩ :: ⟨some d2, .load E (.tmp d), ty2, pos2, af2, g2⟩ :: rest) Q f R M :=
  Wpl.idxA hd hs hi hrow (by omega) (by omega) k1
/-! s[:h] and s[l:]; an assertion to a type that is no interface -/
theorem Wpl.sliceH {E : TypeId} {kk by_ : Nat} {z : Value} {b off n c : Nat} {kh : IntKind} {h : Int} [hT : SliceT C.P T E] [hE : AnyT C.P E kk z by_] (hd : Nat.blt d C.n = true) (hx : f.ev x = .slice (some ⟨b, off, none⟩) n c) (hy : f.ev y = .int kh h) (h0 : 0 ≤ h) (h1 : h ≤ c)
    (k1 : Wpl q C ops rest Q (f.upd d (.slice (some ⟨b, off, none⟩) h.toNat c)) R M) : Wpl q C ops (⟨some d, .slice T x none (some y) none, ty, pos, af, none⟩ :: rest) Q f R M :=
  Wpl.val rfl hd _ (fun w _ => by
    obtain ⟨agg, hE'⟩ := hE.h
    have he : C.P.underlying T = some (.slice (C.P.elem T)) := by have := hT.h; simp [Program.elem, this]
    have he2 : C.P.elem T = E := by have := hT.h; simp [Program.elem, this]
    simp [execOp, hx, hy, run_sliceAt_slice w T _ _ _ _ he, run_slice_h w T _ _ _ he kh h h0 h1, he2, hE'.run_size, sliced, addr_add]) k1
theorem Wpl.assertOk {v : Value} {S A : TypeId} [hA : ConcT C.P A] (hd : Nat.blt d C.n = true) (hx : f.ev x = .iface A v)
    (k1 : Wpl q C ops rest Q (f.upd d (.tuple #[v, .bool true])) R M) : Wpl q C ops (⟨some d, .typeAssert x S A true, ty, pos, af, none⟩ :: rest) Q f R M :=
  Wpl.val rfl hd _ (fun w _ => by
    obtain ⟨D, hD, hn⟩ := hA.h
    cases D <;> first | exact absurd rfl (hn _) | simp [execOp, hx, Instr.typeAssert, run_underlying hD]) k1
theorem Row.take {F : Frag} {k n c m : Nat} {a : Option Addr} {xs : List Value} (h : Row F k (.slice a n c) n xs) (hm : m ≤ n) : Row F k (.slice a m c) m (xs.take (m * k)) := by
  obtain ⟨hl, a', cap, he, h1, h2, h3⟩ := h
  cases he
  have hmk : m * k ≤ n * k := Nat.mul_le_mul_right _ hm
  refine ⟨by rw [List.length_take]; omega, a, c, rfl, by omega, h2, fun hp => ?_⟩
  obtain ⟨b, off, cc, E, fz, e1, e2, e3⟩ := h3 (by omega)
  exact ⟨b, off, cc, E, fz, e1, e2, fun j hj => by rw [e3 j (by omega), List.getElem?_take, if_pos hj]⟩
theorem Row.takeI {F : Frag} {n c m : Nat} {a : Option Addr} {k : IntKind} {l : List Int} (h : Row F 1 (.slice a n c) n (ints k l)) (hm : m ≤ n) : Row F 1 (.slice a m c) m (ints k (l.take m)) := by
  have := h.take hm
  rw [Nat.mul_one] at this
  simpa [ints, List.map_take] using this
/-! picking the pieces that a call gets -/
def Pk (M M1 Mr : List Frag) : Prop := M.Perm (M1 ++ Mr)
theorem Pk.nil (M : List Frag) : Pk M [] M := List.Perm.refl _
theorem Pk.cons {M : List Frag} {F : Frag} {M1 Mr : List Frag} (i : Nat) (hi : M[i]? = some F) (h : Pk (M.eraseIdx i) M1 Mr) : Pk M (F :: M1) Mr :=
  (perm_of_get hi).trans (List.Perm.cons F h)
theorem Wpl.callM {g : FuncId} {as : Array Operand} {ats : Array TypeId} {fs cs args : List Value} {R1 M1 Mr : List Frag} {post : Value → List Frag → Prop} (hd : Nat.blt d C.n = true)
    (hx : f.ev x = .func (.func g) fs.toArray cs.toArray) (hargs : fs ++ as.toList.map f.ev ++ cs = args) (hspec : Ctr C.P g args R1 M1 post) (hM : Pk M M1 Mr) (hR : ∀ F ∈ R1, HasF R Mr F)
    (k : ∀ v M', post v M' → Wpl .seq C ops rest Q (f.upd d v) R (M' ++ Mr)) : Wpl .seq C ops (⟨some d, .call ⟨.value x, as, ats⟩, ty, pos, af, none⟩ :: rest) Q f R M :=
  Wpl.call hd hx hargs hspec hM hR k
theorem HasF.nil {R M : List Frag} : ∀ F ∈ ([] : List Frag), HasF R M F := fun F h => by cases h
theorem HasF.cons {R M L : List Frag} {F : Frag} (h : HasF R M F) (k : ∀ G ∈ L, HasF R M G) : ∀ G ∈ F :: L, HasF R M G := fun G hG => by
  rcases List.mem_cons.1 hG with rfl | hG
  · exact h
  · exact k G hG

/-! an empty piece more -/
theorem Sat.addNil {w : World} (h : Sat C R M w) : Sat C R ([] :: M) w :=
  ⟨h.os, h.tape, h.output, h.size, h.keep, h.ro, fun F hF => by
    rcases List.mem_cons.1 hF with rfl | hF
    · intro p hp; cases hp
    · exact h.mu F hF, by simpa [keys] using h.nodup, fun F hF p hp => by have := h.apart F hF p hp; simpa [keys] using this, fun k hk => h.dirty k (by simpa [keys] using hk)⟩
theorem Wpl.addNil (k : Wpl .seq C ops rest Q f R ([] :: M)) : Wpl .seq C ops rest Q f R M := fun a w ha hw => k a w ha hw.addNil
theorem Wpc.addNil {c : Code} (k : Wpc C c Q f R ([] :: M)) : Wpc C c Q f R M := fun a w ha hw => k a w ha hw.addNil

theorem Wpl.boxA {c : Array Value} (hd : Nat.blt d C.n = true) (hx : f.ev x = .agg c)
    (k : ∀ b, Wpl .seq C ops rest Q (f.upd d (.pointer (some ⟨b, 0, none⟩))) R ([(b, .cells c T (0, 0))] :: M)) :
    Wpl .seq C ops (⟨some d, .box T x, ty, pos, af, none⟩ :: rest) Q f R M := Wpl.box hd hx k

/-! the address of a place of an own row -/
theorem OwnRow.at {E : TypeId} {F : Frag} {v : Value} {n : Nat} {xs : List Value} (h : OwnRow E 1 F v n xs) {m : Nat} (hm : m < n) (u : Value) :
    ∃ b c, F = [(b, .cells c E (0, 0))] ∧ v = .slice (some ⟨b, 0, none⟩) n c.size ∧ m < c.size ∧ c.toList[m]? = xs[m]? ∧ OwnRow E 1 [(b, .cells (c.toList.set m u).toArray E (0, 0))] v n (xs.set m u) := by
  obtain ⟨b, c, h1, h2, h3, h4⟩ := h.set1 hm u
  refine ⟨b, c, h1, h2, h3, ?_, h4⟩
  obtain ⟨hl, ⟨_, h0, _⟩ | ⟨b', cap, c', hv, hF, _, _, _, h5⟩⟩ := h
  · omega
  · rw [h1] at hF
    simp only [List.cons.injEq, Prod.mk.injEq, Obj.cells.injEq, and_true, true_and] at hF
    obtain ⟨rfl, rfl, _⟩ := hF
    rw [← h5, List.getElem?_take, if_pos (by omega)]
theorem Wpl.idxOf {s : Operand} {E : TypeId} {by_ n cap b : Nat} {z : Value} {ki : IntKind} {m : Int} [hT : SliceT C.P T E] [hE : CellT C.P E z by_] (hd : Nat.blt d C.n = true)
    (hs : f.ev s = .slice (some ⟨b, 0, none⟩) n cap) (hx : f.ev x = .int ki m) (h0 : 0 ≤ m) (h1 : m < n)
    (k1 : Wpl q C ops rest Q (f.upd d (.pointer (some ⟨b, m.toNat, none⟩))) R M) :
    Wpl q C ops (⟨some d, .indexAddr T s x, ty, pos, af, none⟩ :: rest) Q f R M :=
  Wpl.val rfl hd (.pointer (some ⟨b, m.toNat, none⟩)) (fun w hw => by simp [execOp, hs, hx, Instr.indexAt, asIntOf, run_underlying hT.h, h0, h1, hE.h.run_size, addr_add]) k1
end rules
end Go.SL
namespace Go.SL
open Go.RowKit

/-! a region that draws its order, with a tail of operations (n and on) that wait for all before them: only behind those of the head the class S must hold -/
section
variable {P : Program} {md : Region.Mode} {ops : Array Oper} {Q : Exit → Act → World → Prop} {S : World → Prop} {n : Nat}
def wpAnyT (P : Program) (md : Region.Mode) (ops : Array Oper) (Q : Exit → Act → World → Prop) (S : World → Prop) (n : Nat) : Nat → Array Bool → Act → World → Prop
  | 0, listed, a, w => Region.ready md ops listed = [] ∧ Q .normal a w
  | fuel + 1, listed, a, w =>
    (Region.ready md ops listed = [] → Q .normal a w) ∧
    ∀ i ∈ Region.ready md ops listed, wpOp P ops Q i (fun a' w' => (i < n → S w') ∧ wpAnyT P md ops Q S n fuel (listed.setIfInBounds i true) a' w') a w

theorem wpAny_of_tail : ∀ (fuel : Nat) (listed : Array Bool) (a : Act) (w : World), wpAnyT P md ops Q S n fuel listed a w → wpAny P md ops Q fuel listed a w
  | 0, _, _, _, h => h
  | fuel + 1, _, _, _, h => ⟨h.1, fun i hi => wpOp_mono (fun a' w' h' => wpAny_of_tail fuel _ a' w' h'.2) (h.2 i hi)⟩

theorem wpAnyT_first {i : Nat} {oi : Oper} {v : Value} (hi : ops[i]? = some oi) (hsel : ∀ (j : Nat) (o : Oper) cs b, ops[j]? = some o → o.op ≠ .select cs b)
    (hs : Region.sinkB md ops n = true) (hc : Region.chainB md ops n = true) (hn : n < ops.size) (hin : i < n)
    (hQ : ∀ c a w, Q (.panic c) (a.put oi.dst v) w → Q (.panic c) a w) :
    ∀ (fuel : Nat) (listed : Array Bool) (a : Act) (w : World), HeadInv md ops n listed →
      (∀ j oj, ops[j]? = some oj → j ≠ i → listed.getD j true = false → (∀ e ∈ oj.after, Region.binds md e = true → e.on ≠ i) → oi.apart ops oj = true) →
      i ∈ Region.ready md ops listed → YieldsIf P ops S oi v a → S w →
      wpAnyT P md ops Q S n fuel (listed.setIfInBounds i true) (a.put oi.dst v) w → wpAnyT P md ops Q S n (fuel + 1) listed a w := by
  intro fuel
  induction fuel with
  | zero =>
    intro listed a w inv _ hr hy hS H
    refine ⟨fun h => (by rw [h] at hr; cases hr), fun j hj => ?_⟩
    by_cases hji : j = i
    · subst hji; exact hy.wpOp hi hS ⟨fun _ => hS, H⟩
    · have := ready_mono hj hji
      rw [H.1] at this
      cases this
  | succ fuel ih =>
    intro listed a w inv hfree hr hy hS H
    refine ⟨fun h => (by rw [h] at hr; cases hr), fun j hj => ?_⟩
    by_cases hji : j = i
    · subst hji; exact hy.wpOp hi hS ⟨fun _ => hS, H⟩
    · have h1 := H.2 j (ready_mono hj hji)
      have hjn : j < n := by
        rcases Nat.lt_or_ge j n with h | h
        · exact h
        · exact absurd hj (tail_waits hs hc hn inv _ i rfl hin (mem_ready.1 hr).1 j h)
      obtain ⟨hjun, oj, hoj, hall⟩ := mem_ready.1 hj
      have hnot : ∀ e ∈ oj.after, Region.binds md e = true → e.on ≠ i := fun e he hb heq => by
        have h1 := hall e he hb
        have h0 := (mem_ready.1 hr).1
        rw [heq] at h1
        rcases Nat.lt_or_ge i listed.size with h' | h'
        · simp [h'] at h0 h1; rw [h0] at h1; cases h1
        · simp [Array.getElem?_eq_none h'] at h1
      have h2 := wpOp_putIf hoj (hfree j oj hoj hji hjun hnot) (fun cs b => hsel i oi cs b hi) (fun cs b => hsel j oj cs b hoj) hQ hy h1
      have hfree' : ∀ k ok, ops[k]? = some ok → k ≠ i → (listed.setIfInBounds j true).getD k true = false →
          (∀ e ∈ ok.after, Region.binds md e = true → e.on ≠ i) → oi.apart ops ok = true := fun k ok hk hki hun hno => by
        refine hfree k ok hk hki ?_ hno
        by_cases hjk : j = k
        · subst hjk; exact hjun
        · rw [getD_set_ne true hjk] at hun; exact hun
      refine wpOp_mono (fun a' w' h3 => ⟨fun _ => h3.2.1 hjn, ih (listed.setIfInBounds j true) a' w' (inv.set hj hjn) hfree' (ready_mono hr (Ne.symm hji)) h3.1 (h3.2.1 hjn) ?_⟩) h2
      rw [Array.setIfInBounds_comm _ _ hji]
      exact h3.2.2

theorem wpAnyT_of_seq : ∀ (l : List Oper) (k : Nat) (listed : Array Bool) (a : Act) (w : World), n ≤ k → (∀ j, l[j]? = ops[k + j]?) →
    Region.seqB md ops l.length k listed = true → wpList P ops Q l a w → wpAnyT P md ops Q S n l.length listed a w
  | [], _, _, _, _, _, _, hB, h => ⟨by simpa [Region.seqB] using hB, h⟩
  | o :: l, k, listed, a, w, hk, hl, hB, h => by
    have h0 : ops[k]? = some o := by simpa using (hl 0).symm
    simp only [List.length_cons, Region.seqB, Bool.and_eq_true, decide_eq_true_eq] at hB
    refine ⟨fun h1 => (by rw [hB.1] at h1; cases h1), fun i hi => ?_⟩
    rw [hB.1] at hi
    have hik : i = k := by simpa using hi
    subst hik
    have hw : wpOp P ops Q i (wpList P ops Q l) a w := by unfold wpOp; simp only [h0]; exact h
    exact wpOp_mono (fun a' w' h' => ⟨fun hlt => by omega, wpAnyT_of_seq l (i + 1) _ a' w' (by omega) (fun j => by have := hl (j + 1); simpa [Nat.add_assoc, Nat.add_comm 1 j] using this) hB.2 h'⟩) hw
end

def Wpt (C : Cx) (n : Nat) (ops : Array Oper) (R0 M0 : List Frag) (fuel : Nat) (listed : Array Bool) (Q : Exit → Env → List Frag → List Frag → Prop) (f : Env) (R M : List Frag) : Prop :=
  ∀ a w, Fr C.n f a → Sat C R M w → HeadInv .any ops n listed → wpAnyT C.P .any ops (liftQ C Q) (Sat C R0 M0) n fuel listed a w

section rules
variable {q : Md} {C : Cx} {ops : Array Oper} {rest : List Oper} {Q : Exit → Env → List Frag → List Frag → Prop} {f : Env} {R M R0 M0 : List Frag}
def Region.tailB (ops : Array Oper) (n : Nat) : Bool := Region.noSelect ops && decide (n < ops.size) && Region.sinkB .any ops n && Region.chainB .any ops n

theorem Wpc.region_tail {id : Nat} {l : List Oper} (n : Nat) (R0 M0 : List Frag) (k : Nat) (hm : C.P.follows .mixedOrders = true) (hn : l.toArray.size = k) (ls : Array Bool) (hls : Array.replicate k false = ls) (h : Wpt C n l.toArray R0 M0 k ls Q f R M) :
    Wpc C (.region id l.toArray true) Q f R M := fun a w ha hw => by
  subst hls hn
  refine wp_region_any hm (wpAny_of_tail (S := Sat C R0 M0) (n := n) _ _ _ _ (h a _ ha (hw.of_heap rfl rfl rfl rfl) ?_))
  exact ⟨by simp, fun j oj _ hl => (by rw [getD_replicate_false] at hl; cases hl), fun t _ ht => getD_in (by simpa using ht) (getD_replicate_false _ _)⟩

theorem Wpt.take (i : Nat) {n : Nat} {o : Oper} {fuel : Nat} {listed listed' : Array Bool} (hi : ops[i]? = some o) (hs : (Region.tailB ops n && Region.free .any ops listed i && (Region.ready .any ops listed).contains i && Nat.blt i n) = true) (hl : listed.setIfInBounds i true = listed')
    (hQ : ∀ c f R M, ¬ Q (.panic c) f R M) (hR : ∀ F ∈ R0, F ∈ R) (hM : Sel M M0)
    (h : Wpl .yld C ops [o] (fun e f' _ _ => Wpt C n ops R0 M0 fuel listed' Q f' R M) f R0 M0) : Wpt C n ops R0 M0 (fuel + 1) listed Q f R M := by
  intro a w ha hw inv
  simp only [Bool.and_eq_true, Region.tailB, decide_eq_true_eq] at hs
  obtain ⟨⟨⟨⟨⟨⟨h1, h2⟩, h3⟩, h4⟩, h5⟩, h6⟩, h7⟩ := hs
  have h7 : i < n := by simpa [Nat.blt_eq] using h7
  have h6 : i ∈ Region.ready .any ops listed := by simpa using h6
  have hh := h a ha
  unfold wpYield at hh
  subst hl
  have hw0 := (hw.sel hM).weakR hR
  by_cases hwt : Region.wanted o (yielded ops a.tmps) = true
  · rw [if_pos hwt] at hh
    obtain ⟨v, hv, f', hf', hk⟩ := hh
    exact wpAnyT_first hi (Region.noSelect_spec h1) h3 h4 h2 h7 (fun c a w ⟨f, R, M, _, _, hq⟩ => absurd hq (hQ c f R M)) _ _ _ _ inv (Region.free_spec hi h5) h6 (.inl ⟨hwt, hv⟩) hw0 (hk _ w hf' hw (inv.set h6 h7))
  · rw [if_neg hwt] at hh
    obtain ⟨f', hf', hk⟩ := hh
    exact wpAnyT_first hi (Region.noSelect_spec h1) h3 h4 h2 h7 (fun c a w ⟨f, R, M, _, _, hq⟩ => absurd hq (hQ c f R M)) _ _ _ _ inv (Region.free_spec hi h5) h6 (.inr ⟨by simpa using hwt, rfl⟩) hw0 (hk _ w hf' hw (inv.set h6 h7))
theorem Wpt.all {n : Nat} {rs : List Nat} {fuel : Nat} {listed : Array Bool} (hr : Region.ready .any ops listed = rs) (hne : rs.isEmpty = false) (hlt : rs.all (Nat.blt · n) = true)
    (h : ∀ i ∈ rs, ∃ o, ops[i]? = some o ∧ Wpl .seq C ops [o] (fun e f' R' M' => match e with | .normal => (∀ F ∈ R0, F ∈ R') ∧ Sel M' M0 ∧ Wpt C n ops R0 M0 fuel (listed.setIfInBounds i true) Q f' R' M' | e => Q e f' R' M') f R M) :
    Wpt C n ops R0 M0 (fuel + 1) listed Q f R M := by
  intro a w ha hw inv
  refine ⟨fun h0 => (by rw [hr] at h0; subst h0; cases hne), fun i hi0 => ?_⟩
  have hi : i ∈ rs := hr ▸ hi0
  have hin : i < n := by have := List.all_eq_true.1 hlt i hi; simpa [Nat.blt_eq] using this
  have inv' := inv.set hi0 hin
  obtain ⟨o, ho, h1⟩ := h i hi
  have h2 := h1 a w ha hw
  unfold wpOp
  simp only [ho]
  unfold wpList at h2
  split
  · rename_i hwt
    rw [if_pos hwt] at h2
    rcases h2 with h2 | ⟨h2, a0, w0, f0, R0', M0', k1, k2, k3⟩
    · refine .inl ?_
      have h3 := Oper.wp_mono (K' := fun a' w' => ∃ f' R' M', Fr C.n f' a' ∧ Sat C R' M' w' ∧ (∀ F ∈ R0, F ∈ R') ∧ Sel M' M0 ∧ Wpt C n ops R0 M0 fuel (listed.setIfInBounds i true) Q f' R' M')
        (fun a' w' hh => by
          obtain ⟨f', R', M', q1, q2, q3⟩ := hh
          exact ⟨f', R', M', q1, q2, q3.1, q3.2.1, q3.2.2⟩) h2
      have h4 := Oper.wp_mono (K' := fun a' w' => (i < n → Sat C R0 M0 w') ∧ wpAnyT C.P .any ops (liftQ C Q) (Sat C R0 M0) n fuel (listed.setIfInBounds i true) a' w')
        (fun a' w' ⟨f', R', M', q1, q2, q3, q4, q5⟩ => ⟨fun _ => (q2.sel q4).weakR q3, q5 a' w' q1 q2 inv'⟩) h3
      -- the other exits
      have e : ∀ {K : Act → World → Prop} {Q1 Q2 : Exit → Act → World → Prop}, (∀ c a w, Q1 (.panic c) a w → Q2 (.panic c) a w) → (∀ a w, Q1 .outgrown a w → Q2 .outgrown a w) → o.wp C.P a w K Q1 → o.wp C.P a w K Q2 := by
        intro K Q1 Q2 hp hog hh
        unfold Oper.wp at hh ⊢
        generalize (execOp a.eval o).run C.P w = r at hh ⊢
        cases r with
        | ok n w' =>
          cases n <;> simp only [Oper.upon] at hh ⊢ <;>
            first
              | exact hh
              | exact Calls.mono hh (fun e w'' he => by
                  cases e with
                  | returned v => exact he
                  | panicked ch => exact hp _ _ _ he
                  | outgrown => obtain ⟨a1, w1, h1⟩ := he; exact ⟨a1, w1, hog _ _ h1⟩)
        | halt x w' => cases x <;> simp only [Oper.upon] at hh ⊢ <;> first | exact hh.elim | exact hp _ _ _ hh | exact hh
      exact e (fun c a w ⟨f', R', M', q1, q2, q3⟩ => ⟨f', R', M', q1, q2, q3⟩) (fun a w ⟨f', R', M', q1, q2, q3⟩ => ⟨f', R', M', q1, q2, q3⟩) h4
    · exact .inr ⟨h2, a0, w0, f0, R0', M0', k1, k2, k3⟩
  · rename_i hwt
    rw [if_neg hwt] at h2
    have h2' : liftQ C (fun e f' R' M' => match e with | .normal => (∀ F ∈ R0, F ∈ R') ∧ Sel M' M0 ∧ Wpt C n ops R0 M0 fuel (listed.setIfInBounds i true) Q f' R' M' | e => Q e f' R' M') .normal (a.put o.dst undef) w := h2
    obtain ⟨f', R', M', q1, q2, q3, q4, q5⟩ := h2'
    exact ⟨fun _ => (q2.sel q4).weakR q3, q5 _ w q1 q2 inv'⟩

/-- one alone may come up -/
theorem Wpt.one (i : Nat) {n : Nat} {o : Oper} {fuel : Nat} {listed listed' : Array Bool} (hr : (decide (Region.ready .any ops listed = [i]) && Nat.blt i n) = true) (hi : ops[i]? = some o) (hl : listed.setIfInBounds i true = listed')
    (h : Wpl .seq C ops [o] (fun e f' R' M' => match e with | .normal => (∀ F ∈ R0, F ∈ R') ∧ Sel M' M0 ∧ Wpt C n ops R0 M0 fuel listed' Q f' R' M' | e => Q e f' R' M') f R M) :
    Wpt C n ops R0 M0 (fuel + 1) listed Q f R M := by
  simp only [Bool.and_eq_true, decide_eq_true_eq] at hr
  exact Wpt.all hr.1 rfl (by simp [hr.2]) fun j hj => by
    rw [List.mem_singleton.1 hj]
    subst hl
    exact ⟨o, hi, h⟩
theorem Wpt.two (i j : Nat) {n : Nat} {o o2 : Oper} {fuel : Nat} {listed l1 l2 : Array Bool} (hr : (decide (Region.ready .any ops listed = [i, j]) && Nat.blt i n && Nat.blt j n) = true) (hi : ops[i]? = some o) (hj : ops[j]? = some o2) (hl1 : listed.setIfInBounds i true = l1) (hl2 : listed.setIfInBounds j true = l2)
    (h1 : Wpl .seq C ops [o] (fun e f' R' M' => match e with | .normal => (∀ F ∈ R0, F ∈ R') ∧ Sel M' M0 ∧ Wpt C n ops R0 M0 fuel l1 Q f' R' M' | e => Q e f' R' M') f R M)
    (h2 : Wpl .seq C ops [o2] (fun e f' R' M' => match e with | .normal => (∀ F ∈ R0, F ∈ R') ∧ Sel M' M0 ∧ Wpt C n ops R0 M0 fuel l2 Q f' R' M' | e => Q e f' R' M') f R M) :
    Wpt C n ops R0 M0 (fuel + 1) listed Q f R M := by
  simp only [Bool.and_eq_true, decide_eq_true_eq] at hr
  exact Wpt.all hr.1.1 rfl (by simp [hr.1.2, hr.2]) fun k hk => by
    subst hl1 hl2
    rcases List.mem_cons.1 hk with rfl | hk
    · exact ⟨o, hi, h1⟩
    · rw [List.mem_singleton.1 hk]; exact ⟨o2, hj, h2⟩
/-- the head is done: the tail, one behind the other -/
theorem Wpt.tail {n fuel : Nat} {l : List Oper} {listed : Array Bool} (hB : Region.seqB .any l.toArray fuel n listed = true) (hr : l.drop n = rest) (hf : rest.length = fuel)
    (h : Wpl .seq C l.toArray rest Q f R M) : Wpt C n l.toArray R0 M0 fuel listed Q f R M := by
  subst hf
  exact fun a w ha hw _ => wpAnyT_of_seq rest n listed a w (Nat.le_refl _) (fun j => by rw [← hr]; simp [List.getElem?_drop]) hB (h a w ha hw)
end rules
end Go.SL
namespace Go.SL
open Go.RowKit

/-! a region that draws its order, with a tail of stores, where some operations (E) that look at no world may still come up between the stores -/
section
variable {P : Program} {md : Region.Mode} {ops : Array Oper} {Q : Exit → Act → World → Prop} {S S0 : World → Prop} {n : Nat} {E : List Nat}
def headB (n : Nat) (E : List Nat) (i : Nat) : Bool := decide (i < n) && !E.contains i
def wpAnyU (P : Program) (md : Region.Mode) (ops : Array Oper) (Q : Exit → Act → World → Prop) (S S0 : World → Prop) (n : Nat) (E : List Nat) : Nat → Array Bool → Act → World → Prop
  | 0, listed, a, w => Region.ready md ops listed = [] ∧ Q .normal a w
  | fuel + 1, listed, a, w =>
    (Region.ready md ops listed = [] → Q .normal a w) ∧
    ∀ i ∈ Region.ready md ops listed, wpOp P ops Q i (fun a' w' => (headB n E i = true → S w') ∧ S0 w' ∧ wpAnyU P md ops Q S S0 n E fuel (listed.setIfInBounds i true) a' w') a w

theorem wpAny_of_U : ∀ (fuel : Nat) (listed : Array Bool) (a : Act) (w : World), wpAnyU P md ops Q S S0 n E fuel listed a w → wpAny P md ops Q fuel listed a w
  | 0, _, _, _, h => h
  | fuel + 1, _, _, _, h => ⟨h.1, fun i hi => wpOp_mono (fun a' w' h' => wpAny_of_U fuel _ a' w' h'.2.2) (h.2 i hi)⟩

def sinkE (md : Region.Mode) (ops : Array Oper) (n : Nat) (E : List Nat) : Bool :=
  (List.range n).all fun i => E.contains i || (List.range (n + 1)).any fun j => decide (i < j) && Region.waitsFor md ops j i

theorem tail_waitsE {listed : Array Bool} (hs : sinkE md ops n E = true) (hc : Region.chainB md ops n = true) (hn : n < ops.size) (inv : HeadInv md ops n listed) (hex : ∀ j, E.contains j = true → listed.getD j false = true) :
    ∀ (d i : Nat), n - i = d → i < n → listed.getD i true = false → ∀ t, n ≤ t → t ∉ Region.ready md ops listed := by
  intro d
  induction d using Nat.strongRecOn with
  | _ d ih =>
    intro i hd hi hun t ht hr
    obtain ⟨_, ot, hot, hall⟩ := mem_ready.1 hr
    have htlt : t < ops.size := (Array.getElem?_eq_some_iff.1 hot).1
    have hiE : E.contains i = false := by
      cases h : E.contains i with
      | false => rfl
      | true => have := hex i h; rw [getD_both hun] at this; cases this
    by_cases htn : t = n
    · subst htn
      have h1 := List.all_eq_true.1 hs i (List.mem_range.2 hi)
      rw [hiE, Bool.false_or] at h1
      obtain ⟨j, hj, hj2⟩ := List.any_eq_true.1 h1
      simp only [Bool.and_eq_true, decide_eq_true_eq] at hj2
      obtain ⟨oj, hoj, e, he, hb, hon⟩ := Region.waitsFor_spec hj2.2
      have hjle : j ≤ t := by have := List.mem_range.1 hj; omega
      by_cases hjt : j = t
      · subst hjt
        have : oj = ot := Option.some.inj (hoj.symm.trans hot)
        subst this
        have h2 := hall e he hb
        rw [hon, getD_both hun] at h2
        cases h2
      · cases hl : listed.getD j false with
        | true =>
          have h2 := inv.closed j oj hoj hl e he hb
          rw [hon, getD_both hun] at h2
          cases h2
        | false =>
          have hjs : j < listed.size := by rw [inv.size]; omega
          exact ih (t - j) (by omega) j rfl (by omega) (getD_in hjs hl) t (Nat.le_refl _) hr
    · have h1 := List.all_eq_true.1 hc t (List.mem_range.2 htlt)
      simp only [Bool.or_eq_true, decide_eq_true_eq] at h1
      rcases h1 with h1 | h1
      · omega
      · obtain ⟨o', ho', e, he, hb, hon⟩ := Region.waitsFor_spec h1
        have : o' = ot := Option.some.inj (ho'.symm.trans hot)
        subst this
        have h2 := hall e he hb
        rw [hon, getD_both (inv.tail (t - 1) (by omega) (by omega))] at h2
        cases h2

theorem notThere {md : Region.Mode} {i : Nat} {oj : Oper} {listed : Array Bool} (hr : i ∈ Region.ready md ops listed) (hall : ∀ e ∈ oj.after, Region.binds md e = true → listed.getD e.on false = true) :
    ∀ e ∈ oj.after, Region.binds md e = true → e.on ≠ i := fun e he hb heq => by
  have h1 := hall e he hb
  have h0 := (mem_ready.1 hr).1
  rw [heq] at h1
  rcases Nat.lt_or_ge i listed.size with h' | h'
  · simp [h'] at h0 h1; rw [h0] at h1; cases h1
  · simp [Array.getElem?_eq_none h'] at h1

/-- an operation that looks at no world may be taken first, whatever comes -/
theorem wpAnyU_first0 {i : Nat} {oi : Oper} {v : Value} (hi : ops[i]? = some oi) (hsel : ∀ (j : Nat) (o : Oper) cs b, ops[j]? = some o → o.op ≠ .select cs b) (hE : headB n E i = false)
    (hQ : ∀ c a w, Q (.panic c) (a.put oi.dst v) w → Q (.panic c) a w) :
    ∀ (fuel : Nat) (listed : Array Bool) (a : Act) (w : World),
      (∀ j oj, ops[j]? = some oj → j ≠ i → listed.getD j true = false → (∀ e ∈ oj.after, Region.binds md e = true → e.on ≠ i) → oi.apart ops oj = true) →
      i ∈ Region.ready md ops listed → YieldsIf P ops S0 oi v a → S0 w →
      wpAnyU P md ops Q S S0 n E fuel (listed.setIfInBounds i true) (a.put oi.dst v) w → wpAnyU P md ops Q S S0 n E (fuel + 1) listed a w := by
  intro fuel
  induction fuel with
  | zero =>
    intro listed a w _ hr hy hS H
    refine ⟨fun h => (by rw [h] at hr; cases hr), fun j hj => ?_⟩
    by_cases hji : j = i
    · subst hji; exact hy.wpOp hi hS ⟨fun h => (by rw [hE] at h; cases h), hS, H⟩
    · have := ready_mono hj hji
      rw [H.1] at this
      cases this
  | succ fuel ih =>
    intro listed a w hfree hr hy hS H
    refine ⟨fun h => (by rw [h] at hr; cases hr), fun j hj => ?_⟩
    by_cases hji : j = i
    · subst hji; exact hy.wpOp hi hS ⟨fun h => (by rw [hE] at h; cases h), hS, H⟩
    · have h1 := H.2 j (ready_mono hj hji)
      obtain ⟨hjun, oj, hoj, hall⟩ := mem_ready.1 hj
      have h2 := wpOp_putIf hoj (hfree j oj hoj hji hjun (notThere hr hall)) (fun cs b => hsel i oi cs b hi) (fun cs b => hsel j oj cs b hoj) hQ hy h1
      have hfree' : ∀ k ok, ops[k]? = some ok → k ≠ i → (listed.setIfInBounds j true).getD k true = false →
          (∀ e ∈ ok.after, Region.binds md e = true → e.on ≠ i) → oi.apart ops ok = true := fun k ok hk hki hun hno => by
        refine hfree k ok hk hki ?_ hno
        by_cases hjk : j = k
        · subst hjk; exact hjun
        · rw [getD_set_ne true hjk] at hun; exact hun
      refine wpOp_mono (fun a' w' h3 => ⟨h3.2.1, h3.2.2.1, ih (listed.setIfInBounds j true) a' w' hfree' (ready_mono hr (Ne.symm hji)) h3.1 h3.2.2.1 ?_⟩) h2
      rw [Array.setIfInBounds_comm _ _ hji]
      exact h3.2.2.2

theorem wpAnyU_first {i : Nat} {oi : Oper} {v : Value} (hi : ops[i]? = some oi) (hsel : ∀ (j : Nat) (o : Oper) cs b, ops[j]? = some o → o.op ≠ .select cs b)
    (hs : sinkE md ops n E = true) (hc : Region.chainB md ops n = true) (hn : n < ops.size) (hin : i < n)
    (hSS : ∀ w, S w → S0 w) (hQ : ∀ c a w, Q (.panic c) (a.put oi.dst v) w → Q (.panic c) a w) :
    ∀ (fuel : Nat) (listed : Array Bool) (a : Act) (w : World), HeadInv md ops n listed → (∀ j, E.contains j = true → listed.getD j false = true) →
      (∀ j oj, ops[j]? = some oj → j ≠ i → listed.getD j true = false → (∀ e ∈ oj.after, Region.binds md e = true → e.on ≠ i) → oi.apart ops oj = true) →
      i ∈ Region.ready md ops listed → YieldsIf P ops S oi v a → S w →
      wpAnyU P md ops Q S S0 n E fuel (listed.setIfInBounds i true) (a.put oi.dst v) w → wpAnyU P md ops Q S S0 n E (fuel + 1) listed a w := by
  intro fuel
  induction fuel with
  | zero =>
    intro listed a w inv hex _ hr hy hS H
    refine ⟨fun h => (by rw [h] at hr; cases hr), fun j hj => ?_⟩
    by_cases hji : j = i
    · subst hji; exact hy.wpOp hi hS ⟨fun _ => hS, hSS _ hS, H⟩
    · have := ready_mono hj hji
      rw [H.1] at this
      cases this
  | succ fuel ih =>
    intro listed a w inv hex hfree hr hy hS H
    refine ⟨fun h => (by rw [h] at hr; cases hr), fun j hj => ?_⟩
    by_cases hji : j = i
    · subst hji; exact hy.wpOp hi hS ⟨fun _ => hS, hSS _ hS, H⟩
    · have h1 := H.2 j (ready_mono hj hji)
      have hjn : j < n := by
        rcases Nat.lt_or_ge j n with h | h
        · exact h
        · exact absurd hj (tail_waitsE hs hc hn inv hex _ i rfl hin (mem_ready.1 hr).1 j h)
      obtain ⟨hjun, oj, hoj, hall⟩ := mem_ready.1 hj
      have hjE : headB n E j = true := by
        have : E.contains j = false := by
          cases h : E.contains j with
          | false => rfl
          | true => have := hex j h; rw [getD_both hjun] at this; cases this
        unfold headB; rw [this, decide_eq_true hjn]; rfl
      have h2 := wpOp_putIf hoj (hfree j oj hoj hji hjun (notThere hr hall)) (fun cs b => hsel i oi cs b hi) (fun cs b => hsel j oj cs b hoj) hQ hy h1
      have hfree' : ∀ k ok, ops[k]? = some ok → k ≠ i → (listed.setIfInBounds j true).getD k true = false →
          (∀ e ∈ ok.after, Region.binds md e = true → e.on ≠ i) → oi.apart ops ok = true := fun k ok hk hki hun hno => by
        refine hfree k ok hk hki ?_ hno
        by_cases hjk : j = k
        · subst hjk; exact hjun
        · rw [getD_set_ne true hjk] at hun; exact hun
      refine wpOp_mono (fun a' w' h3 => ⟨fun _ => h3.2.1 hjE, h3.2.2.1, ih (listed.setIfInBounds j true) a' w' (inv.set hj hjn) (fun k hk => getD_set_true (hex k hk)) hfree' (ready_mono hr (Ne.symm hji)) h3.1 (h3.2.1 hjE) ?_⟩) h2
      rw [Array.setIfInBounds_comm _ _ hji]
      exact h3.2.2.2
end

def Wpu (hd : Bool) (C : Cx) (n : Nat) (E : List Nat) (ops : Array Oper) (R0 M0 : List Frag) (fuel : Nat) (listed : Array Bool) (Q : Exit → Env → List Frag → List Frag → Prop) (f : Env) (R M : List Frag) : Prop :=
  ∀ a w, Fr C.n f a → Sat C R M w → (hd = true → HeadInv .any ops n listed) → wpAnyU C.P .any ops (liftQ C Q) (Sat C R0 M0) (Sat C [] []) n E fuel listed a w
section rules
variable {q : Md} {C : Cx} {ops : Array Oper} {rest : List Oper} {Q : Exit → Env → List Frag → List Frag → Prop} {f : Env} {R M R0 M0 : List Frag}
theorem sat0 {w : World} (h : Sat C R M w) : Sat C [] [] w := (h.sel (Sel.nil _)).weakR (fun F hF => by cases hF)
theorem Wpc.region_u (n k : Nat) (E : List Nat) {id : Nat} {l : List Oper} (hm : C.P.follows .mixedOrders = true) (hn : l.toArray.size = k) {ls : Array Bool} (hls : Array.replicate k false = ls) (h : Wpu true C n E l.toArray R M k ls Q f R M) :
    Wpc C (.region id l.toArray true) Q f R M := fun a w ha hw => by
  subst hls hn
  refine wp_region_any hm (wpAny_of_U (S := Sat C R M) (S0 := Sat C [] []) (n := n) (E := E) _ _ _ _ (h a _ ha (hw.of_heap rfl rfl rfl rfl) fun _ => ?_))
  exact ⟨by simp, fun j oj _ hl => (by rw [getD_replicate_false] at hl; cases hl), fun t _ ht => getD_in (by simpa using ht) (getD_replicate_false _ _)⟩
/-- an operation that looks at no memory -/
theorem Wpu.take0 (i : Nat) {n : Nat} {E : List Nat} {o : Oper} {fuel : Nat} {listed listed' : Array Bool} (hi : ops[i]? = some o) (hs : (Region.noSelect ops && Region.free .any ops listed i && (Region.ready .any ops listed).contains i && Nat.blt i n && !headB n E i) = true) (hl : listed.setIfInBounds i true = listed')
    (hQ : ∀ c f R M, ¬ Q (.panic c) f R M)
    (h : Wpl .yld C ops [o] (fun e f' _ _ => Wpu true C n E ops R0 M0 fuel listed' Q f' R M) f [] []) : Wpu true C n E ops R0 M0 (fuel + 1) listed Q f R M := by
  intro a w ha hw inv
  simp only [Bool.and_eq_true, Bool.not_eq_true'] at hs
  obtain ⟨⟨⟨⟨h1, h5⟩, h6⟩, h7⟩, h8⟩ := hs
  have h7 : i < n := by simpa [Nat.blt_eq] using h7
  have h6 : i ∈ Region.ready .any ops listed := by simpa using h6
  have hh := h a ha
  unfold wpYield at hh
  subst hl
  by_cases hwt : Region.wanted o (yielded ops a.tmps) = true
  · rw [if_pos hwt] at hh
    obtain ⟨v, hv, f', hf', hk⟩ := hh
    exact wpAnyU_first0 hi (Region.noSelect_spec h1) h8 (fun c a w ⟨f, R, M, _, _, hq⟩ => absurd hq (hQ c f R M)) _ _ _ _ (Region.free_spec hi h5) h6 (.inl ⟨hwt, hv⟩) (sat0 hw) (hk _ w hf' hw (fun _ => (inv rfl).set h6 h7))
  · rw [if_neg hwt] at hh
    obtain ⟨f', hf', hk⟩ := hh
    exact wpAnyU_first0 hi (Region.noSelect_spec h1) h8 (fun c a w ⟨f, R, M, _, _, hq⟩ => absurd hq (hQ c f R M)) _ _ _ _ (Region.free_spec hi h5) h6 (.inr ⟨by simpa using hwt, rfl⟩) (sat0 hw) (hk _ w hf' hw (fun _ => (inv rfl).set h6 h7))
theorem Wpu.take (i : Nat) {n : Nat} {E : List Nat} {o : Oper} {fuel : Nat} {listed listed' : Array Bool} (hi : ops[i]? = some o)
    (hs : (Region.noSelect ops && decide (n < ops.size) && sinkE .any ops n E && Region.chainB .any ops n && Region.free .any ops listed i && (Region.ready .any ops listed).contains i && Nat.blt i n && E.all (fun j => listed.getD j false)) = true) (hl : listed.setIfInBounds i true = listed')
    (hQ : ∀ c f R M, ¬ Q (.panic c) f R M) (hR : ∀ F ∈ R0, F ∈ R) (hM : Sel M M0)
    (h : Wpl .yld C ops [o] (fun e f' _ _ => Wpu true C n E ops R0 M0 fuel listed' Q f' R M) f R0 M0) : Wpu true C n E ops R0 M0 (fuel + 1) listed Q f R M := by
  intro a w ha hw inv
  simp only [Bool.and_eq_true, decide_eq_true_eq] at hs
  obtain ⟨⟨⟨⟨⟨⟨⟨h1, h2⟩, h3⟩, h4⟩, h5⟩, h6⟩, h7⟩, h8⟩ := hs
  have h7 : i < n := by simpa [Nat.blt_eq] using h7
  have h6 : i ∈ Region.ready .any ops listed := by simpa using h6
  have hex : ∀ j, E.contains j = true → listed.getD j false = true := fun j hj => List.all_eq_true.1 h8 j (by simpa using hj)
  have hh := h a ha
  unfold wpYield at hh
  subst hl
  have hw0 := (hw.sel hM).weakR hR
  by_cases hwt : Region.wanted o (yielded ops a.tmps) = true
  · rw [if_pos hwt] at hh
    obtain ⟨v, hv, f', hf', hk⟩ := hh
    exact wpAnyU_first hi (Region.noSelect_spec h1) h3 h4 h2 h7 (fun _ h => sat0 h) (fun c a w ⟨f, R, M, _, _, hq⟩ => absurd hq (hQ c f R M)) _ _ _ _ (inv rfl) hex (Region.free_spec hi h5) h6 (.inl ⟨hwt, hv⟩) hw0 (hk _ w hf' hw (fun _ => (inv rfl).set h6 h7))
  · rw [if_neg hwt] at hh
    obtain ⟨f', hf', hk⟩ := hh
    exact wpAnyU_first hi (Region.noSelect_spec h1) h3 h4 h2 h7 (fun _ h => sat0 h) (fun c a w ⟨f, R, M, _, _, hq⟩ => absurd hq (hQ c f R M)) _ _ _ _ (inv rfl) hex (Region.free_spec hi h5) h6 (.inr ⟨by simpa using hwt, rfl⟩) hw0 (hk _ w hf' hw (fun _ => (inv rfl).set h6 h7))
theorem Wpu.tls {hd : Bool} {n : Nat} {E : List Nat} {rs : List Nat} {fuel : Nat} {listed : Array Bool} (hr : Region.ready .any ops listed = rs) (hne : rs.isEmpty = false) (hlt : rs.all (fun i => !headB n E i) = true)
    (h : ∀ i ∈ rs, ∃ o, ops[i]? = some o ∧ Wpl .seq C ops [o] (fun e f' R' M' => match e with | .normal => Wpu false C n E ops R0 M0 fuel (listed.setIfInBounds i true) Q f' R' M' | e => Q e f' R' M') f R M) :
    Wpu hd C n E ops R0 M0 (fuel + 1) listed Q f R M := by
  intro a w ha hw inv
  refine ⟨fun h0 => (by rw [hr] at h0; subst h0; cases hne), fun i hi0 => ?_⟩
  have hi : i ∈ rs := hr ▸ hi0
  have hin : headB n E i = false := by have := List.all_eq_true.1 hlt i hi; simpa using this
  obtain ⟨o, ho, h1⟩ := h i hi
  have h2 := h1 a w ha hw
  unfold wpOp
  simp only [ho]
  unfold wpList at h2
  split
  · rename_i hwt
    rw [if_pos hwt] at h2
    rcases h2 with h2 | ⟨h2, a0, w0, f0, R0', M0', k1, k2, k3⟩
    · refine .inl ?_
      have h3 := Oper.wp_mono (K' := fun a' w' => ∃ f' R' M', Fr C.n f' a' ∧ Sat C R' M' w' ∧ Wpu false C n E ops R0 M0 fuel (listed.setIfInBounds i true) Q f' R' M')
        (fun a' w' hh => by
          obtain ⟨f', R', M', q1, q2, q3⟩ := hh
          exact ⟨f', R', M', q1, q2, q3⟩) h2
      have h4 := Oper.wp_mono (K' := fun a' w' => (headB n E i = true → Sat C R0 M0 w') ∧ Sat C [] [] w' ∧ wpAnyU C.P .any ops (liftQ C Q) (Sat C R0 M0) (Sat C [] []) n E fuel (listed.setIfInBounds i true) a' w')
        (fun a' w' ⟨f', R', M', q1, q2, q5⟩ => ⟨fun h => (by rw [hin] at h; cases h), sat0 q2, q5 a' w' q1 q2 (fun h => by cases h)⟩) h3
      -- the other exits
      have e : ∀ {K : Act → World → Prop} {Q1 Q2 : Exit → Act → World → Prop}, (∀ c a w, Q1 (.panic c) a w → Q2 (.panic c) a w) → (∀ a w, Q1 .outgrown a w → Q2 .outgrown a w) → o.wp C.P a w K Q1 → o.wp C.P a w K Q2 := by
        intro K Q1 Q2 hp hog hh
        unfold Oper.wp at hh ⊢
        generalize (execOp a.eval o).run C.P w = r at hh ⊢
        cases r with
        | ok n w' =>
          cases n <;> simp only [Oper.upon] at hh ⊢ <;>
            first
              | exact hh
              | exact Calls.mono hh (fun e w'' he => by
                  cases e with
                  | returned v => exact he
                  | panicked ch => exact hp _ _ _ he
                  | outgrown => obtain ⟨a1, w1, h1⟩ := he; exact ⟨a1, w1, hog _ _ h1⟩)
        | halt x w' => cases x <;> simp only [Oper.upon] at hh ⊢ <;> first | exact hh.elim | exact hp _ _ _ hh | exact hh
      exact e (fun c a w ⟨f', R', M', q1, q2, q3⟩ => ⟨f', R', M', q1, q2, q3⟩) (fun a w ⟨f', R', M', q1, q2, q3⟩ => ⟨f', R', M', q1, q2, q3⟩) h4
    · exact .inr ⟨h2, a0, w0, f0, R0', M0', k1, k2, k3⟩
  · rename_i hwt
    rw [if_neg hwt] at h2
    have h2' : liftQ C (fun e f' R' M' => match e with | .normal => Wpu false C n E ops R0 M0 fuel (listed.setIfInBounds i true) Q f' R' M' | e => Q e f' R' M') .normal (a.put o.dst undef) w := h2
    obtain ⟨f', R', M', q1, q2, q5⟩ := h2'
    exact ⟨fun h => (by rw [hin] at h; cases h), sat0 q2, q5 _ w q1 q2 (fun h => by cases h)⟩


/-- the only one that may come up, in the tail -/
theorem Wpu.tl (i : Nat) {hd : Bool} {n : Nat} {E : List Nat} {o : Oper} {fuel : Nat} {listed listed' : Array Bool} (hr : (decide (Region.ready .any ops listed = [i]) && !headB n E i) = true) (hi : ops[i]? = some o) (hl : listed.setIfInBounds i true = listed')
    (h : Wpl .seq C ops [o] (fun e f' R' M' => match e with | .normal => Wpu false C n E ops R0 M0 fuel listed' Q f' R' M' | e => Q e f' R' M') f R M) :
    Wpu hd C n E ops R0 M0 (fuel + 1) listed Q f R M := by
  simp only [Bool.and_eq_true, decide_eq_true_eq] at hr
  exact Wpu.tls hr.1 rfl (by simpa using hr.2) fun j hj => by
    rw [List.mem_singleton.1 hj]
    subst hl
    exact ⟨o, hi, h⟩
theorem Wpu.done {hd : Bool} {n fuel : Nat} {E : List Nat} {listed : Array Bool} (hr : Region.ready .any ops listed = []) (h : Q .normal f R M) : Wpu hd C n E ops R0 M0 fuel listed Q f R M :=
  fun a w ha hw _ => by
    cases fuel with
    | zero => exact ⟨hr, f, R, M, ha, hw, h⟩
    | succ k => exact ⟨fun _ => ⟨f, R, M, ha, hw, h⟩, by rw [hr]; simp⟩
end rules
end Go.SL
