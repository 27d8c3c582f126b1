/- the statement BlockForms of the rows holds, without conditions -/
import Derived.Test.YtmfcgffdijnokaaPm
import Derived.Test.YtmfcgffdijnokaaRows
import Derived.ProofKit
import Derived.Deep.SlicePairs
import Derived.Lib.SmallJoins
set_option linter.unusedVariables false
set_option linter.unusedSimpArgs false
set_option linter.unusedSectionVars false
set_option maxRecDepth 100000
set_option maxHeartbeats 4000000
namespace Go.Proofs.Ytmfcgffdijnokaa
open Go.SL Go.ChangeShapes Go.WideShapes Go.ChangeAt Go.RowKit Go.Deep
/-! the arguments of a law as rows -/
theorem In_nil (w : World) : Frag.In [] w := fun p hp => absurd hp List.not_mem_nil
theorem row_nil (k : Nat) (a : Option Addr) (cap : Nat) (hc : cap ≤ maxLen) : Row [] k (.slice a 0 cap) 0 [] := ⟨by simp, a, cap, rfl, Nat.zero_le _, hc, fun h => absurd h (by omega)⟩
theorem row_of_cells {w : World} {k n cap : Nat} {a : Addr} {xs : List Value} (hl : xs.length = n * k) (hk : 0 < k) (hn : n ≤ cap) (hc : cap ≤ maxLen) (h : ∀ j, j < n * k → w.cell? (a.add j) = xs[j]?) :
    ∃ F, Row F k (.slice (some a) n cap) n xs ∧ F.In w := by
  rcases Nat.eq_zero_or_pos n with rfl | hn0
  · have : xs = [] := List.eq_nil_of_length_eq_zero (by simpa using hl)
    subst this
    exact ⟨[], row_nil k _ cap hc, In_nil w⟩
  · have hp : 0 < n * k := Nat.mul_pos hn0 hk
    obtain ⟨b, off, sp⟩ := a
    have h0 := h 0 hp
    rw [List.getElem?_eq_getElem (by omega)] at h0
    have ha : (⟨b, off, sp⟩ : Addr).add 0 = ⟨b, off, sp⟩ := by unfold Addr.add; rw [if_pos rfl]
    rw [ha] at h0
    unfold World.cell? at h0
    dsimp only at h0
    split at h0
    · rename_i c E fz hb
      cases sp with
      | some s => simp at h0
      | none =>
        refine ⟨[(b, .cells c E fz)], ⟨hl, _, cap, rfl, hn, hc, fun _ => ⟨b, off, c, E, fz, rfl, List.mem_singleton.2 rfl, fun j hj => ?_⟩⟩, fun p hp => by rw [List.mem_singleton.1 hp]; exact hb⟩
        have hj2 := h j hj
        rw [addr_add] at hj2
        rw [← hj2]
        simp [World.cell?, hb]
    · cases h0
theorem take_getD {l : List Int} {n j : Nat} (h1 : j < n) (h2 : j < l.length) : (l.take n)[j]? = some (l.getD j 0) := by
  rw [List.getElem?_take, if_pos h1, List.getElem?_eq_getElem h2]
  simp [List.getD, h2]
section
variable {H : Type} {enc : TypeId × Value → H} {P : Program} {w : World} {base fuel : Nat} {spare : Nat → Bool} {held : Bool} {t e : TypeId} {v : Value} {x : DataW H × List MemPlace}
/-- a slice of bytes -/
theorem open_row8 (ht : P.underlying t = some (.slice e)) (he : P.underlying e = some (.int .u8)) (hc : P.cellsOf e = 1) (h : DataW.trod enc P w base spare held fuel t [v] = some x) :
    ∃ (F : Frag) (st : List Int), Row F 1 v st.length (ints .u8 st) ∧ bytes8 st ∧ F.In w := by
  rcases Go.ChangeShapes.open_ints ht he hc h with ⟨h0, _⟩ | ⟨a, len, cap, zs, h0, _, hlc, hcm, hz, _, hcell, hwf⟩
  · cases h0
    exact ⟨[], [], row_nil 1 none 0 (by decide), fun x hx => absurd hx List.not_mem_nil, In_nil w⟩
  · cases h0
    have hle : len ≤ zs.length := by rw [hz]; split <;> omega
    have hlen : (zs.take len).length = len := by rw [List.length_take]; omega
    have hcl : ∀ j, j < len * 1 → w.cell? (a.add j) = (ints .u8 (zs.take len))[j]? := fun j hj => by
      rw [hcell j (by omega), ints, List.getElem?_map, take_getD (by omega) (by omega)]
      rfl
    obtain ⟨F, hr, hF⟩ := row_of_cells (cap := cap) (by rw [ints_length, hlen, Nat.mul_one]) (by decide) hlc hcm hcl
    refine ⟨F, zs.take len, by rw [hlen]; exact hr, fun y hy => ?_, hF⟩
    have := hwf y (List.mem_of_mem_take hy)
    simp only [Lit.wf, Bool.and_eq_true, decide_eq_true_eq] at this
    have h1 : (0 : Int) ≤ y ∧ y ≤ 255 := this
    exact h1
def intV : Value → Int | .int _ n => n | _ => 0
/-- a slice of tokens -/
theorem open_rowT {f0 f1 : Field} (ht : P.underlying t = some (.slice e)) (he : P.underlying e = some (.struct #[f0, f1])) (ce : P.cellsOf e = 2) (o0 : f0.offset = 0) (o1 : f1.offset = 1) (c0 : P.cellsOf f0.type = 1) (c1 : P.cellsOf f1.type = 1)
    (i0 : P.underlying f0.type = some (.int .i64)) (i1 : P.underlying f1.type = some (.int .i64)) (h : DataW.trod enc P w base spare held fuel t [v] = some x) :
    ∃ (F : Frag) (ts : List (Int × Int)), Row F 2 v ts.length (flat tokC ts) ∧ F.In w := by
  rcases Go.Deep.open_slice_pairs ht he ce o0 o1 c0 c1 h with ⟨h0, _⟩ | ⟨a, len, cap, m, n, V0, V1, D0, D1, P0, P1, h0, _, hlc, hcm, hm, _, hcell⟩
  · cases h0
    exact ⟨[], [], row_nil 2 none 0 (by decide), In_nil w⟩
  · cases h0
    have hle : len ≤ m := by rw [hm]; split <;> omega
    have hlen : ((List.range len).map fun i => (intV (V0 i), intV (V1 i))).length = len := by simp
    have hv : ∀ i, i < len → V0 i = .int .i64 (intV (V0 i)) ∧ V1 i = .int .i64 (intV (V1 i)) := fun i hi => by
      obtain ⟨_, _, g0, g1⟩ := hcell i (by omega)
      obtain ⟨n0, e0, _, _⟩ := DataW.trod_int i0 g0
      obtain ⟨n1, e1, _, _⟩ := DataW.trod_int i1 g1
      simp only [List.cons.injEq, and_true] at e0 e1
      rw [e0, e1]
      exact ⟨rfl, rfl⟩
    have hcl : ∀ j, j < len * 2 → w.cell? (a.add j) = (flat tokC ((List.range len).map fun i => (intV (V0 i), intV (V1 i))))[j]? := fun j hj => by
      have hi : j / 2 < len := by omega
      have hat := flat_at (g := tokC) (k := 2) (fun _ => rfl) ((List.range len).map fun i => (intV (V0 i), intV (V1 i))) (j / 2) (by rw [hlen]; exact hi)
      have hget : (flat tokC ((List.range len).map fun i => (intV (V0 i), intV (V1 i))))[j]? = (tokC (intV (V0 (j / 2)), intV (V1 (j / 2))))[j % 2]? := by
        have e1 : ((List.range len).map fun i => (intV (V0 i), intV (V1 i)))[j / 2]'(by rw [hlen]; exact hi) = (intV (V0 (j / 2)), intV (V1 (j / 2))) := by simp
        rw [e1] at hat
        rw [← hat, List.getElem?_take, if_pos (by omega), List.getElem?_drop]
        congr 1
        omega
      rw [hget]
      obtain ⟨g0, g1, _, _⟩ := hcell (j / 2) (by omega)
      obtain ⟨v0, v1⟩ := hv (j / 2) hi
      rcases Nat.mod_two_eq_zero_or_one j with hj2 | hj2
      · rw [hj2, show j = j / 2 * 2 by omega, g0, v0]
        have : j / 2 * 2 / 2 = j / 2 := by omega
        rw [this]
        rfl
      · rw [hj2, show j = j / 2 * 2 + 1 by omega, g1, v1]
        have : (j / 2 * 2 + 1) / 2 = j / 2 := by omega
        rw [this]
        rfl
    obtain ⟨F, hr, hF⟩ := row_of_cells (cap := cap) (by rw [flat_length (k := 2) (fun _ => rfl), hlen]) (by decide) hlc hcm hcl
    exact ⟨F, _, by rw [hlen]; exact hr, hF⟩
end
/-- what a contract without changes leaves -/
theorem below_of_sat {P : Program} {w w' : World} {R M' : List Frag} (h : Sat ⟨P, 0, w, keys []⟩ R M' w') : Below w.heap.size w w' :=
  ⟨h.os, h.tape, h.output, h.size, fun k hk => h.keep k hk List.not_mem_nil⟩
theorem calls_of_pspec {P : Program} {g : FuncId} {args : List Value} {R : List Frag} {v : Value} (h : PSpec P g args R v) {w : World} (hR : ∀ F ∈ R, F.In w) :
    Calls P g args.toArray w fun e w' => e = .returned v ∧ Below w.heap.size w w' :=
  (h.2 w hR (fun F hF => absurd hF List.not_mem_nil) List.nodup_nil (fun _ _ _ _ h => absurd h List.not_mem_nil)).mono fun e w' ⟨v', M', e1, ⟨e2, e3⟩, e4⟩ => by
    subst e2
    exact ⟨e1, below_of_sat e4⟩
end Go.Proofs.Ytmfcgffdijnokaa
set_option maxRecDepth 100000
set_option maxHeartbeats 4000000
namespace Go.Proofs.Ytmfcgffdijnokaa
open Go.SL Go.ChangeShapes Go.WideShapes Go.ChangeAt Go.RowKit Go.Deep
theorem own : ownKnob Try.prog.godebug = none := by kernel_rfl
theorem laidOut : laidOutB Try.prog = true := by kernel_rfl
/-- the law's answer at arguments as they may come -/
theorem forms_calls {H : Type} {enc : TypeId × Value → H} {W : World} {base : Nat} {v0 v1 : Value} {d0 d1 : DataW H} {p0 p1 : List MemPlace} (hv0 : Value.okWide Try.prog W .any base 25 v0)
    (hv1 : Value.okWide Try.prog W .any base 22 v1) (h0 : DataW.Trod enc Try.prog W 0 (fun _ => true) true 25 v0 d0 p0) (h1 : DataW.Trod enc Try.prog W 0 (fun _ => true) true 22 v1 d1 p1) :
    Calls Try.prog 3 #[v0, v1] W fun e w' => e = .returned (.bool true) ∧ Below W.heap.size W w' := by
  obtain ⟨vb, vt, vk, vl, yb, yt, yk, yl, n, rfl, rfl, rfl, hb, ht, hk, hl⟩ := Go.Joins.open_agg4 Try.underlying25 (by kernel_rfl) (by kernel_rfl) hv0 h0
  obtain ⟨a1, l1, c1, rfl⟩ := okWide_slice Try.underlying22 hv1
  obtain ⟨fuel, h1⟩ := h1
  obtain ⟨k, e1, _, _⟩ := DataW.trod_int Try.underlying3 hk
  obtain ⟨last, e2, _⟩ := DataW.trod_bool Try.underlying4 hl
  simp only [List.cons.injEq, and_true] at e1 e2
  subst e1 e2
  obtain ⟨Ft, ts, hrt, hFt⟩ := open_rowT Try.underlying23 Try.underlying54 (by kernel_rfl) rfl rfl (by kernel_rfl) (by kernel_rfl) Try.underlying3 Try.underlying3 ht
  obtain ⟨Fs, st, hrs, h8, hFs⟩ := open_row8 Try.underlying22 Try.underlying5 (by kernel_rfl) h1
  refine calls_of_pspec (forms_spec Ft Fs vb vt _ ts st k last hrt hrs h8) fun F hF => ?_
  rcases List.mem_cons.1 hF with rfl | hF
  · exact hFt
  · rw [List.mem_singleton.1 hF]; exact hFs
theorem forms_lifted (os : Os) (started : os.Started) (H : Type) (enc : TypeId × Value → H) :
    ReturnsInHanded {} Try.checked os 3 .any (Rows.blockFormsSpec.pre6 enc Try.prog Try.f3 Rows.blockFormsRow.domain false) (Rows.blockFormsSpec.post enc Try.prog Try.f3 false true false false) := by
  refine returnsInHanded_of_change (C := Try.checked) own started (by kernel_rfl) Try.func3
    (ChangeSpec.witness6 (enc := enc) (C := Try.checked) false ⟨#[], #[.agg #[.slice none 0 0, .slice none 0 0, .int .i64 0, .bool false], .slice none 0 0], []⟩ 8 (by kernel_rfl) (by kernel_rfl) (by kernel_rfl) (by kernel_rfl)) ?_
  intro W base args ds gs before hval0 hW hcnd _
  have hval : ∀ (j : Nat) t v, Try.f3.params[j]? = some t → args[j]? = some v → Value.okWide Try.prog W .any base t v := hval0
  have hW' := hW
  obtain ⟨p, q, hA0, hV, rfl, hfz, hnd⟩ := hW
  have hA : DataW.TrodAll enc Try.prog W 0 (fun _ => true) true Try.f3.params.toList args.toList ds p := hA0
  rw [Try.params3] at hA hval
  obtain ⟨v0, v1, d0, d1, p0, p1, rfl, rfl, rfl, h0, h1⟩ := trodAll_two hA
  obtain ⟨rfl, rfl⟩ := trodVars_none hV
  clear hA0 hval0
  simp only [List.append_nil] at hW'
  refine (forms_calls (hval 0 25 v0 rfl rfl) (hval 1 22 v1 rfl rfl) h0 h1).mono fun e W' ⟨he, hb⟩ => ?_
  subst he
  have hl0 : ∀ x ∈ p0, x.block < W.heap.size := fun x hx => by simpa using hW'.lt x (List.mem_append_left _ hx)
  have hl1 : ∀ x ∈ p1, x.block < W.heap.size := fun x hx => by simpa using hW'.lt x (List.mem_append_right _ hx)
  exact ⟨_, rfl, _, _, _, [], p0 ++ p1, [], hW', trodAll_mk1 (shut_bool Try.underlying4 _),
    trodAll_mk2 (Below.trod laidOut (by kernel_rfl) (of_decide_eq_true (by kernel_rfl)) h0 hb hl0) (Below.trod laidOut (by kernel_rfl) (of_decide_eq_true (by kernel_rfl)) h1 hb hl1), rfl, hb.frame _, fun h => by cases h⟩
theorem forms_holds : Rows.BlockFormsSaid :=
  OpenClaim.holds_of_wide 3 Try.f3 rfl rfl rfl rfl rfl rfl rfl ⟨rfl, rfl, rfl, rfl, rfl⟩ rfl rfl rfl rfl rfl (by kernel_rfl) Try.func3 (by kernel_rfl)
    (of_decide_eq_true (by kernel_rfl)) (by unfold Func.isWrapper; first | (rw [if_pos (by decide +kernel)]; kernel_rfl) | (rw [if_neg (by decide +kernel)]; exact ⟨rfl, rfl⟩))
    (fun os started H enc _ => forms_lifted os started H enc)
end Go.Proofs.Ytmfcgffdijnokaa
