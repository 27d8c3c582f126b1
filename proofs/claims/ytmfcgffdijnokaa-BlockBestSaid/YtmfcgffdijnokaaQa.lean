/- contracts: the fixed fact; what arguments of a law are -/
import Derived.Test.YtmfcgffdijnokaaPl
import Derived.Test.YtmfcgffdijnokaaRows
import Derived.ProofKit
import Derived.Deep.SlicePairs
import Derived.Lib.SmallJoins
set_option linter.unusedVariables false
set_option linter.unusedSimpArgs false
set_option linter.unusedSectionVars false
set_option maxRecDepth 100000
set_option maxHeartbeats 4000000
namespace Go.Proofs.Ytmfcgffdijnokaa
open Go.SL Go.RowKit
attribute [local irreducible] Wpl Wpc Wph
/-! burnishlaw10.alive -/
section
variable {q : Md} {C : Cx} {ops : Array Oper} {rest : List Oper} {Q : Exit → Env → List Frag → List Frag → Prop} {f : Env} {R M : List Frag}
variable {d : Nat} {ty T : TypeId} {pos : String} {af : Array Edge} {x y : Operand}
/-- the conversion of a slice of bytes to a slice of bytes -/
theorem Wpl.convB {E : TypeId} {b n cap : Nat} {c : Array Value} {fz : Nat × Nat} [hT : SliceT C.P T E] [hE : IntT C.P E .u8] (hd : Nat.blt d C.n = true) (hx : f.ev x = .slice (some ⟨b, 0, none⟩) n cap) (hi : M[0]? = some [(b, .cells c E fz)])
    (k1 : ∀ fz', Wpl .seq C ops rest Q (f.upd d (.slice (some ⟨b, 0, none⟩) n cap)) R (M.set 0 [(b, .cells c E fz')])) :
    Wpl .seq C ops (⟨some d, .convert T T x, ty, pos, af, none⟩ :: rest) Q f R M := by
  obtain ⟨lo, hi2⟩ := fz
  refine Wpl.chg rfl hd fun w hw => ?_
  have hheap := hw.mu _ (List.mem_of_getElem? hi) (b, .cells c E (lo, hi2)) (List.mem_singleton.2 rfl)
  refine ⟨.slice (some ⟨b, 0, none⟩) n cap, w.freeze ⟨b, c.size, none⟩ 1, R, _, ?_, ?_, k1 (if lo == hi2 then (c.size, c.size + 1) else (min lo c.size, max hi2 (c.size + 1)))⟩
  · show (execOp f.ev _).run C.P w = _
    simp only [execOp, hx, convert, Sem.run_bind, run_underlying hT.h, run_underlying hE.h, Result.andThen_ok, beq_self_eq_true]
    have hs : w.shape? b = some (E, c.size) := by unfold World.shape?; rw [hheap]
    simp [markStringish, Sem.run_bind, shape, Sem.run, hs, freeze]
  · refine hw.set hi rfl rfl rfl (by simp [World.freeze]) (fun m hm hk => ?_) (fun p hp => ?_) (by simp) (fun m hm => .inl (by simpa using hm))
    · have hne : m ≠ b := fun e => hk (by simp [e])
      simp [World.freeze, Array.getElem?_modify, Ne.symm hne]
    · rw [List.mem_singleton.1 hp]
      simp only [World.freeze, Nat.one_ne_zero, if_false, Array.getElem?_modify, if_true, hheap, Option.map_some]
end
theorem alive_w : writeM true 1 [(0, 97)] [97] ([], 0) = ([75, 4, 0], 18) := by
  have h1 : writeM true 1 [(0, 97)] [97] ([], 0) = symP false usualM.l (toksP false usualM (putP false ([], 0) 3 3) [(0, 97)]) 256 := by
    unfold writeM planM
    rfl
  rw [h1]
  decide +kernel
theorem alive_ok : checkOk 1 [(0, 97)] [97] := by
  have h1 : tokFits [97] (0, 97) 0 := by
    refine ⟨by decide, by decide, fun k _ h2 => ?_⟩
    have h3 : k < 0 + 1 := h2
    have : k = 0 := by omega
    subst this
    exact ⟨fun _ => rfl, fun h => absurd rfl h⟩
  exact ⟨by decide, ⟨h1, rfl⟩, by decide⟩
theorem alive_spec : PSpec Try.prog 7 [] [] (.bool true) := by
  refine Ctr.intro Try.func7 (by kernel_rfl) rfl (by conv => lhs; whnf) rfl fun W => ?_
  repeat' (first | (apply Wpc.seqK; intro K hK) | apply Wpc.region | apply Wpl.nil | (apply hK; clear hK K) | (apply Wpl.asg; exact rfl; (conv => lhs; whnf)))
  refine Wpl.callM rfl rfl rfl (newWriter_spec false) (Pk.nil _) HasF.nil ?_
  rintro vw _ ⟨FW, FB, rfl, hw⟩
  repeat' (first | (apply Wpc.seqK; intro K hK) | apply Wpc.region | apply Wpl.nil | (apply hK; clear hK K) | (apply Wpl.mv; exact rfl; (conv => lhs; whnf)) | (apply Wpl.asg; exact rfl; (conv => lhs; whnf)))
  refine Wpl.build (cs := [.int .i64 0, .int .i64 97]) rfl rfl ?_
  refine Wpl.litE (k := 2) (u := .agg #[.int .i64 0, .int .i64 97]) (us := [.int .i64 0, .int .i64 97]) rfl rfl rfl (by decide) rfl (fun b5 F5 h5 => ?_)
  refine Wpl.lit (cs := #[.int .u8 97]) rfl (by decide) (by decide) (fill_one (u := .int .u8 97) (by simp) rfl rfl) (fun b6 => ?_)
  refine Wpl.convB rfl rfl rfl (fun fz => ?_)
  refine Wpl.build (cs := [.int .i64 1, .slice (some ⟨b5, 0, none⟩) 1 1, .slice (some ⟨b6, 0, none⟩) 1 1]) rfl rfl ?_
  have h6 : Row [(b6, .cells #[.int .u8 97] 5 fz)] 1 (.slice (some ⟨b6, 0, none⟩) 1 1) 1 [.int .u8 97] :=
    ⟨by decide, _, _, rfl, Nat.le_refl _, by unfold maxLen; omega, fun _ => ⟨b6, 0, _, 5, fz, rfl, List.mem_singleton.2 rfl, fun j hj => by
      have : j = 0 := by omega
      subst this; rfl⟩⟩
  have hck := alive_ok
  refine Wpl.callM rfl rfl rfl (write_ok true 1 F5 [(b6, .cells #[.int .u8 97] 5 fz)] (.slice (some ⟨b5, 0, none⟩) 1 1) (.slice (some ⟨b6, 0, none⟩) 1 1) [(0, 97)] [97] h5 h6 (fun x hx => by simp at hx; omega) (by decide) (by decide) (p := ([], 0)) hw (by decide) hck)
    (Pk.cons 2 rfl (Pk.cons 2 rfl (Pk.nil _))) (HasF.cons (HasF.m 1 rfl) (HasF.cons (HasF.m 0 rfl) HasF.nil)) ?_
  rintro _ _ ⟨FW2, FB2, rfl, rfl, hw2⟩
  rw [alive_w] at hw2
  repeat' (first | (apply Wpc.seqK; intro K hK) | apply Wpc.region | apply Wpl.nil | (apply hK; clear hK K) | (apply Wpl.mv; exact rfl; (conv => lhs; whnf)) | (apply Wpc.cond_false; exact rfl) | apply Wpc.skip | (apply Wpl.errNeNil; exact rfl; exact rfl))
  refine Wpl.callM rfl rfl rfl (wbytes_spec hw2 (by decide)) (Pk.nil _) (HasF.cons (HasF.m 0 rfl) (HasF.cons (HasF.m 1 rfl) HasF.nil)) ?_
  rintro vb _ ⟨F', rfl, hb⟩
  have hal : alignB false (alignK 18) [75, 4, 0] 18 = [75, 4, 0] := by decide
  dsimp only at hb
  rw [hal] at hb
  have hrow := hb.row
  clear hb hal hw2 h5 h6
  obtain ⟨p, c, rfl⟩ := hrow.len
  repeat' (first | (apply Wpc.seqK; intro K hK) | apply Wpc.region | apply Wpl.nil | (apply hK; clear hK K) | (apply Wpl.mv; exact rfl; (conv => lhs; whnf)) | (apply Wpl.asg; exact rfl; (conv => lhs; whnf)) | (apply Wpl.guard_run; exact rfl; exact rfl) | (apply Wpl.guard_skip; exact rfl; exact rfl; exact rfl) | (apply Wpl.pickT; exact rfl; exact rfl; (conv => lhs; whnf)) | (apply Wpl.pickF; exact rfl; exact rfl; (conv => lhs; whnf)) | apply Wpc.ret | (apply Wpl.eql; exact rfl; exact rfl; exact rfl; all_goals (intro h; try (exfalso; omega))) | (apply Wpl.len; exact rfl; exact rfl) | (apply Wpl.idxA; exact rfl; exact rfl; exact rfl; assumption; omega; omega; intro _ _ _) | (apply Wpl.ldP; exact rfl; exact rfl; assumption; (exact HasF.m 0 rfl)))
  all_goals first | (exfalso; apply ‹_ ≠ _›; rfl) | exact ⟨[_], [], ⟨rfl, trivial⟩, Sel.nil _, fun _ h => h, rfl, rfl⟩
end Go.Proofs.Ytmfcgffdijnokaa
set_option maxRecDepth 100000
set_option maxHeartbeats 4000000
namespace Go.Proofs.Ytmfcgffdijnokaa
open Go.SL Go.ChangeShapes Go.WideShapes Go.ChangeAt Go.RowKit Go.Deep
/-! the arguments of a law as rows -/
theorem In_nil (w : World) : Frag.In [] w := fun p hp => absurd hp List.not_mem_nil
theorem row_nil (k : Nat) (a : Option Addr) (cap : Nat) (hc : cap ≤ maxLen) : Row [] k (.slice a 0 cap) 0 [] := ⟨by simp, a, cap, rfl, Nat.zero_le _, hc, fun h => absurd h (by omega)⟩
theorem row_of_cells {w : World} {k n cap : Nat} {a : Addr} {xs : List Value} (hl : xs.length = n * k) (hk : 0 < k) (hn : n ≤ cap) (hc : cap ≤ maxLen) (h : ∀ j, j < n * k → w.cell? (a.add j) = xs[j]?) :
    ∃ F, Row F k (.slice (some a) n cap) n xs ∧ F.In w := by
  rcases Nat.eq_zero_or_pos n with rfl | hn0
  · have : xs = [] := List.eq_nil_of_length_eq_zero (by simpa using hl)
    subst this
    exact ⟨[], row_nil k _ cap hc, In_nil w⟩
  · have hp : 0 < n * k := Nat.mul_pos hn0 hk
    obtain ⟨b, off, sp⟩ := a
    have h0 := h 0 hp
    rw [List.getElem?_eq_getElem (by omega)] at h0
    have ha : (⟨b, off, sp⟩ : Addr).add 0 = ⟨b, off, sp⟩ := by unfold Addr.add; rw [if_pos rfl]
    rw [ha] at h0
    unfold World.cell? at h0
    dsimp only at h0
    split at h0
    · rename_i c E fz hb
      cases sp with
      | some s => simp at h0
      | none =>
        refine ⟨[(b, .cells c E fz)], ⟨hl, _, cap, rfl, hn, hc, fun _ => ⟨b, off, c, E, fz, rfl, List.mem_singleton.2 rfl, fun j hj => ?_⟩⟩, fun p hp => by rw [List.mem_singleton.1 hp]; exact hb⟩
        have hj2 := h j hj
        rw [addr_add] at hj2
        rw [← hj2]
        simp [World.cell?, hb]
    · cases h0
theorem take_getD {l : List Int} {n j : Nat} (h1 : j < n) (h2 : j < l.length) : (l.take n)[j]? = some (l.getD j 0) := by
  rw [List.getElem?_take, if_pos h1, List.getElem?_eq_getElem h2]
  simp [List.getD, h2]
section
variable {H : Type} {enc : TypeId × Value → H} {P : Program} {w : World} {base fuel : Nat} {spare : Nat → Bool} {held : Bool} {t e : TypeId} {v : Value} {x : DataW H × List MemPlace}
/-- a slice of bytes -/
theorem open_row8 (ht : P.underlying t = some (.slice e)) (he : P.underlying e = some (.int .u8)) (hc : P.cellsOf e = 1) (h : DataW.trod enc P w base spare held fuel t [v] = some x) :
    ∃ (F : Frag) (st : List Int), Row F 1 v st.length (ints .u8 st) ∧ bytes8 st ∧ F.In w := by
  rcases Go.ChangeShapes.open_ints ht he hc h with ⟨h0, _⟩ | ⟨a, len, cap, zs, h0, _, hlc, hcm, hz, _, hcell, hwf⟩
  · cases h0
    exact ⟨[], [], row_nil 1 none 0 (by decide), fun x hx => absurd hx List.not_mem_nil, In_nil w⟩
  · cases h0
    have hle : len ≤ zs.length := by rw [hz]; split <;> omega
    have hlen : (zs.take len).length = len := by rw [List.length_take]; omega
    have hcl : ∀ j, j < len * 1 → w.cell? (a.add j) = (ints .u8 (zs.take len))[j]? := fun j hj => by
      rw [hcell j (by omega), ints, List.getElem?_map, take_getD (by omega) (by omega)]
      rfl
    obtain ⟨F, hr, hF⟩ := row_of_cells (cap := cap) (by rw [ints_length, hlen, Nat.mul_one]) (by decide) hlc hcm hcl
    refine ⟨F, zs.take len, by rw [hlen]; exact hr, fun y hy => ?_, hF⟩
    have := hwf y (List.mem_of_mem_take hy)
    simp only [Lit.wf, Bool.and_eq_true, decide_eq_true_eq] at this
    have h1 : (0 : Int) ≤ y ∧ y ≤ 255 := this
    exact h1
def intV : Value → Int | .int _ n => n | _ => 0
/-- a slice of tokens -/
theorem open_rowT {f0 f1 : Field} (ht : P.underlying t = some (.slice e)) (he : P.underlying e = some (.struct #[f0, f1])) (ce : P.cellsOf e = 2) (o0 : f0.offset = 0) (o1 : f1.offset = 1) (c0 : P.cellsOf f0.type = 1) (c1 : P.cellsOf f1.type = 1)
    (i0 : P.underlying f0.type = some (.int .i64)) (i1 : P.underlying f1.type = some (.int .i64)) (h : DataW.trod enc P w base spare held fuel t [v] = some x) :
    ∃ (F : Frag) (ts : List (Int × Int)), Row F 2 v ts.length (flat tokC ts) ∧ F.In w := by
  rcases Go.Deep.open_slice_pairs ht he ce o0 o1 c0 c1 h with ⟨h0, _⟩ | ⟨a, len, cap, m, n, V0, V1, D0, D1, P0, P1, h0, _, hlc, hcm, hm, _, hcell⟩
  · cases h0
    exact ⟨[], [], row_nil 2 none 0 (by decide), In_nil w⟩
  · cases h0
    have hle : len ≤ m := by rw [hm]; split <;> omega
    have hlen : ((List.range len).map fun i => (intV (V0 i), intV (V1 i))).length = len := by simp
    have hv : ∀ i, i < len → V0 i = .int .i64 (intV (V0 i)) ∧ V1 i = .int .i64 (intV (V1 i)) := fun i hi => by
      obtain ⟨_, _, g0, g1⟩ := hcell i (by omega)
      obtain ⟨n0, e0, _, _⟩ := DataW.trod_int i0 g0
      obtain ⟨n1, e1, _, _⟩ := DataW.trod_int i1 g1
      simp only [List.cons.injEq, and_true] at e0 e1
      rw [e0, e1]
      exact ⟨rfl, rfl⟩
    have hcl : ∀ j, j < len * 2 → w.cell? (a.add j) = (flat tokC ((List.range len).map fun i => (intV (V0 i), intV (V1 i))))[j]? := fun j hj => by
      have hi : j / 2 < len := by omega
      have hat := flat_at (g := tokC) (k := 2) (fun _ => rfl) ((List.range len).map fun i => (intV (V0 i), intV (V1 i))) (j / 2) (by rw [hlen]; exact hi)
      have hget : (flat tokC ((List.range len).map fun i => (intV (V0 i), intV (V1 i))))[j]? = (tokC (intV (V0 (j / 2)), intV (V1 (j / 2))))[j % 2]? := by
        have e1 : ((List.range len).map fun i => (intV (V0 i), intV (V1 i)))[j / 2]'(by rw [hlen]; exact hi) = (intV (V0 (j / 2)), intV (V1 (j / 2))) := by simp
        rw [e1] at hat
        rw [← hat, List.getElem?_take, if_pos (by omega), List.getElem?_drop]
        congr 1
        omega
      rw [hget]
      obtain ⟨g0, g1, _, _⟩ := hcell (j / 2) (by omega)
      obtain ⟨v0, v1⟩ := hv (j / 2) hi
      rcases Nat.mod_two_eq_zero_or_one j with hj2 | hj2
      · rw [hj2, show j = j / 2 * 2 by omega, g0, v0]
        have : j / 2 * 2 / 2 = j / 2 := by omega
        rw [this]
        rfl
      · rw [hj2, show j = j / 2 * 2 + 1 by omega, g1, v1]
        have : (j / 2 * 2 + 1) / 2 = j / 2 := by omega
        rw [this]
        rfl
    obtain ⟨F, hr, hF⟩ := row_of_cells (cap := cap) (by rw [flat_length (k := 2) (fun _ => rfl), hlen]) (by decide) hlc hcm hcl
    exact ⟨F, _, by rw [hlen]; exact hr, hF⟩
end
/-- what a contract without changes leaves -/
theorem below_of_sat {P : Program} {w w' : World} {R M' : List Frag} (h : Sat ⟨P, 0, w, keys []⟩ R M' w') : Below w.heap.size w w' :=
  ⟨h.os, h.tape, h.output, h.size, fun k hk => h.keep k hk List.not_mem_nil⟩
theorem calls_of_pspec {P : Program} {g : FuncId} {args : List Value} {R : List Frag} {v : Value} (h : PSpec P g args R v) {w : World} (hR : ∀ F ∈ R, F.In w) :
    Calls P g args.toArray w fun e w' => e = .returned v ∧ Below w.heap.size w w' :=
  (h.2 w hR (fun F hF => absurd hF List.not_mem_nil) List.nodup_nil (fun _ _ _ _ h => absurd h List.not_mem_nil)).mono fun e w' ⟨v', M', e1, ⟨e2, e3⟩, e4⟩ => by
    subst e2
    exact ⟨e1, below_of_sat e4⟩
theorem own : ownKnob Try.prog.godebug = none := by kernel_rfl
theorem laidOut : laidOutB Try.prog = true := by kernel_rfl
end Go.Proofs.Ytmfcgffdijnokaa
