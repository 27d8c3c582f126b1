/- BlockForms returns true -/
import Derived.Test.YtmfcgffdijnokaaPl
set_option linter.unusedVariables false
set_option linter.unusedSimpArgs false
set_option linter.unusedSectionVars false
set_option maxRecDepth 100000
set_option maxHeartbeats 4000000
namespace Go.Proofs.Ytmfcgffdijnokaa
open Go.SL Go.RowKit
attribute [local irreducible] Wpl Wpc Wph
/-! burnishlaw10.alive -/
section
variable {q : Md} {C : Cx} {ops : Array Oper} {rest : List Oper} {Q : Exit → Env → List Frag → List Frag → Prop} {f : Env} {R M : List Frag}
variable {d : Nat} {ty T : TypeId} {pos : String} {af : Array Edge} {x y : Operand}
/-- the conversion of a slice of bytes to a slice of bytes -/
theorem Wpl.convB {E : TypeId} {b n cap : Nat} {c : Array Value} {fz : Nat × Nat} [hT : SliceT C.P T E] [hE : IntT C.P E .u8] (hd : Nat.blt d C.n = true) (hx : f.ev x = .slice (some ⟨b, 0, none⟩) n cap) (hi : M[0]? = some [(b, .cells c E fz)])
    (k1 : ∀ fz', Wpl .seq C ops rest Q (f.upd d (.slice (some ⟨b, 0, none⟩) n cap)) R (M.set 0 [(b, .cells c E fz')])) :
    Wpl .seq C ops (⟨some d, .convert T T x, ty, pos, af, none⟩ :: rest) Q f R M := by
  obtain ⟨lo, hi2⟩ := fz
  refine Wpl.chg rfl hd fun w hw => ?_
  have hheap := hw.mu _ (List.mem_of_getElem? hi) (b, .cells c E (lo, hi2)) (List.mem_singleton.2 rfl)
  refine ⟨.slice (some ⟨b, 0, none⟩) n cap, w.freeze ⟨b, c.size, none⟩ 1, R, _, ?_, ?_, k1 (if lo == hi2 then (c.size, c.size + 1) else (min lo c.size, max hi2 (c.size + 1)))⟩
  · show (execOp f.ev _).run C.P w = _
    simp only [execOp, hx, convert, Sem.run_bind, run_underlying hT.h, run_underlying hE.h, Result.andThen_ok, beq_self_eq_true]
    have hs : w.shape? b = some (E, c.size) := by unfold World.shape?; rw [hheap]
    simp [markStringish, Sem.run_bind, shape, Sem.run, hs, freeze]
  · refine hw.set hi rfl rfl rfl (by simp [World.freeze]) (fun m hm hk => ?_) (fun p hp => ?_) (by simp) (fun m hm => .inl (by simpa using hm))
    · have hne : m ≠ b := fun e => hk (by simp [e])
      simp [World.freeze, Array.getElem?_modify, Ne.symm hne]
    · rw [List.mem_singleton.1 hp]
      simp only [World.freeze, Nat.one_ne_zero, if_false, Array.getElem?_modify, if_true, hheap, Option.map_some]
end
theorem alive_w : writeM true 1 [(0, 97)] [97] ([], 0) = ([75, 4, 0], 18) := by
  have h1 : writeM true 1 [(0, 97)] [97] ([], 0) = symP false usualM.l (toksP false usualM (putP false ([], 0) 3 3) [(0, 97)]) 256 := by
    unfold writeM planM
    rfl
  rw [h1]
  decide +kernel
theorem alive_ok : checkOk 1 [(0, 97)] [97] := by
  have h1 : tokFits [97] (0, 97) 0 := by
    refine ⟨by decide, by decide, fun k _ h2 => ?_⟩
    have h3 : k < 0 + 1 := h2
    have : k = 0 := by omega
    subst this
    exact ⟨fun _ => rfl, fun h => absurd rfl h⟩
  exact ⟨by decide, ⟨h1, rfl⟩, by decide⟩
theorem alive_spec : PSpec Try.prog 7 [] [] (.bool true) := by
  refine Ctr.intro Try.func7 (by kernel_rfl) rfl (by conv => lhs; whnf) rfl fun W => ?_
  repeat' (first | (apply Wpc.seqK; intro K hK) | apply Wpc.region | apply Wpl.nil | (apply hK; clear hK K) | (apply Wpl.asg; exact rfl; (conv => lhs; whnf)))
  refine Wpl.callM rfl rfl rfl (newWriter_spec false) (Pk.nil _) HasF.nil ?_
  rintro vw _ ⟨FW, FB, rfl, hw⟩
  repeat' (first | (apply Wpc.seqK; intro K hK) | apply Wpc.region | apply Wpl.nil | (apply hK; clear hK K) | (apply Wpl.mv; exact rfl; (conv => lhs; whnf)) | (apply Wpl.asg; exact rfl; (conv => lhs; whnf)))
  refine Wpl.build (cs := [.int .i64 0, .int .i64 97]) rfl rfl ?_
  refine Wpl.litE (k := 2) (u := .agg #[.int .i64 0, .int .i64 97]) (us := [.int .i64 0, .int .i64 97]) rfl rfl rfl (by decide) rfl (fun b5 F5 h5 => ?_)
  refine Wpl.lit (cs := #[.int .u8 97]) rfl (by decide) (by decide) (fill_one (u := .int .u8 97) (by simp) rfl rfl) (fun b6 => ?_)
  refine Wpl.convB rfl rfl rfl (fun fz => ?_)
  refine Wpl.build (cs := [.int .i64 1, .slice (some ⟨b5, 0, none⟩) 1 1, .slice (some ⟨b6, 0, none⟩) 1 1]) rfl rfl ?_
  have h6 : Row [(b6, .cells #[.int .u8 97] 5 fz)] 1 (.slice (some ⟨b6, 0, none⟩) 1 1) 1 [.int .u8 97] :=
    ⟨by decide, _, _, rfl, Nat.le_refl _, by unfold maxLen; omega, fun _ => ⟨b6, 0, _, 5, fz, rfl, List.mem_singleton.2 rfl, fun j hj => by
      have : j = 0 := by omega
      subst this; rfl⟩⟩
  have hck := alive_ok
  refine Wpl.callM rfl rfl rfl (write_ok true 1 F5 [(b6, .cells #[.int .u8 97] 5 fz)] (.slice (some ⟨b5, 0, none⟩) 1 1) (.slice (some ⟨b6, 0, none⟩) 1 1) [(0, 97)] [97] h5 h6 (fun x hx => by simp at hx; omega) (by decide) (by decide) (p := ([], 0)) hw (by decide) hck)
    (Pk.cons 2 rfl (Pk.cons 2 rfl (Pk.nil _))) (HasF.cons (HasF.m 1 rfl) (HasF.cons (HasF.m 0 rfl) HasF.nil)) ?_
  rintro _ _ ⟨FW2, FB2, rfl, rfl, hw2⟩
  rw [alive_w] at hw2
  repeat' (first | (apply Wpc.seqK; intro K hK) | apply Wpc.region | apply Wpl.nil | (apply hK; clear hK K) | (apply Wpl.mv; exact rfl; (conv => lhs; whnf)) | (apply Wpc.cond_false; exact rfl) | apply Wpc.skip | (apply Wpl.errNeNil; exact rfl; exact rfl))
  refine Wpl.callM rfl rfl rfl (wbytes_spec hw2 (by decide)) (Pk.nil _) (HasF.cons (HasF.m 0 rfl) (HasF.cons (HasF.m 1 rfl) HasF.nil)) ?_
  rintro vb _ ⟨F', rfl, hb⟩
  have hal : alignB false (alignK 18) [75, 4, 0] 18 = [75, 4, 0] := by decide
  dsimp only at hb
  rw [hal] at hb
  have hrow := hb.row
  clear hb hal hw2 h5 h6
  obtain ⟨p, c, rfl⟩ := hrow.len
  repeat' (first | (apply Wpc.seqK; intro K hK) | apply Wpc.region | apply Wpl.nil | (apply hK; clear hK K) | (apply Wpl.mv; exact rfl; (conv => lhs; whnf)) | (apply Wpl.asg; exact rfl; (conv => lhs; whnf)) | (apply Wpl.guard_run; exact rfl; exact rfl) | (apply Wpl.guard_skip; exact rfl; exact rfl; exact rfl) | (apply Wpl.pickT; exact rfl; exact rfl; (conv => lhs; whnf)) | (apply Wpl.pickF; exact rfl; exact rfl; (conv => lhs; whnf)) | apply Wpc.ret | (apply Wpl.eql; exact rfl; exact rfl; exact rfl; all_goals (intro h; try (exfalso; omega))) | (apply Wpl.len; exact rfl; exact rfl) | (apply Wpl.idxA; exact rfl; exact rfl; exact rfl; assumption; omega; omega; intro _ _ _) | (apply Wpl.ldP; exact rfl; exact rfl; assumption; (exact HasF.m 0 rfl)))
  all_goals first | (exfalso; apply ‹_ ≠ _›; rfl) | exact ⟨[_], [], ⟨rfl, trivial⟩, Sel.nil _, fun _ h => h, rfl, rfl⟩
end Go.Proofs.Ytmfcgffdijnokaa
set_option maxRecDepth 100000
set_option maxHeartbeats 4000000
namespace Go.Proofs.Ytmfcgffdijnokaa
open Go.SL Go.RowKit
attribute [local irreducible] Wpl Wpc Wph
/-! burnishlaw10.BlockForms -/
theorem tokP_ge (hi : Bool) (m : PlanM) (p : List Int × Nat) (t : Int × Int) : p.2 ≤ (tokP hi m p t).2 := by
  unfold tokP
  split
  · rw [symP_n]; omega
  · show p.2 ≤ (symP hi m.d (putP hi (symP hi m.l p (lenSym t.1)) (t.1 - (lenBase (lenSym t.1)).1) (lenBase (lenSym t.1)).2.1.toNat) (distSym t.2)).2 + (distBase (distSym t.2)).2.1.toNat
    rw [symP_n]
    show p.2 ≤ (symP hi m.l p (lenSym t.1)).2 + (lenBase (lenSym t.1)).2.1.toNat + _ + _
    rw [symP_n]
    omega
theorem toksP_ge (hi : Bool) (m : PlanM) : ∀ (ts : List (Int × Int)) (p : List Int × Nat), p.2 ≤ (toksP hi m p ts).2
  | [], _ => Nat.le_refl _
  | t :: ts, p => Nat.le_trans (tokP_ge hi m p t) (toksP_ge hi m ts (tokP hi m p t))
theorem runsP_ge (hi : Bool) (o : List Int) : ∀ (rs : List (Int × Int)) (p : List Int × Nat), p.2 ≤ (runsP hi o p rs).2
  | [], _ => Nat.le_refl _
  | r :: rs, p => by
    refine Nat.le_trans ?_ (runsP_ge hi o rs (putP hi (symP hi o p r.1) r.2 (reachM r.1).2.toNat))
    show p.2 ≤ (symP hi o p r.1).2 + (reachM r.1).2.toNat
    rw [symP_n]; omega
theorem lensP_ge (hi : Bool) (m : PlanM) (p : List Int × Nat) : p.2 ≤ (lensP hi m p).2 := by
  refine Nat.le_trans ?_ (runsP_ge hi m.ones m.runs _)
  rw [onesP_n]
  show p.2 ≤ p.2 + 5 + 5 + 4 + _
  omega
theorem writeM_ge (last : Bool) (k : Int) (ts : List (Int × Int)) (st : List Int) (p : List Int × Nat) : p.2 + 3 ≤ (writeM last k ts st p).2 := by
  unfold writeM
  split
  · rw [bytesP_n]
    show p.2 + 3 ≤ (padP false (putP false p _ 3) _).2 + 16 + 16 + _
    rw [padP_n]
    show p.2 + 3 ≤ p.2 + 3 + _ + 16 + 16 + _
    omega
  · rw [symP_n]
    refine Nat.le_trans ?_ (Nat.le_trans (toksP_ge false (planM k ts) ts _) (Nat.le_add_right _ _))
    split
    · exact lensP_ge false (planM k ts) (putP false p (k * 2 + if last = true then 1 else 0) 3)
    · exact Nat.le_refl _
theorem cutHere {C : Cx} {c : Code} {Q : Exit → Env → List Frag → List Frag → Prop} {K : Env → List Frag → List Frag → Prop} (hK : ∀ f R M, Wpc C c Q f R M → K f R M) (L : List (Nat × Value)) (R M : List Frag)
    (k : ∀ g, Wpc C c Q (Env.mk L g) R M) : ∀ f, Agree f L → K f R M := fun f h => hK _ _ _ (by have := k f; rwa [h.mk] at this)
section
variable (Ft Fs : Frag) (vb vt vs : Value) (ts : List (Int × Int)) (st : List Int) (k : Int) (last : Bool) (ht : Row Ft 2 vt ts.length (flat tokC ts)) (hs : Row Fs 1 vs st.length (ints .u8 st)) (h8 : bytes8 st)
include ht hs h8
theorem forms_bad (hf : ¬ fits ts st) (h3 : ts.length ≤ 300) (h7 : st.length ≤ 70000) : PSpec Try.prog 3 [.agg #[vb, vt, .int .i64 k, .bool last], vs] [Ft, Fs] (.bool true) := by
  have hc : ¬ checkOk k ts st := fun h => hf h.2.1
  have hbits := bits_bad k Ft Fs vt vs ts st ht hs h8 (by omega) (by omega) hc
  have hwr := fun vw => write_bad last k Ft Fs vt vs ts st ht hs h8 (by omega) (by omega) vw hc
  have hbest := best_bad Ft Fs vt vs ts st ht hs h8 (by omega) (by omega) hf
  have hfs := fits_spec Ft Fs vt vs ts st ht hs h8 (by omega) (by omega)
  rw [← Value.bool.inj (fitsB_false hf)] at hfs
  have his : PSpec Try.prog 13 [.iface 40 (.int .i64 6), .int .i64 6] [] (.bool true) := is_spec 6 6 (by decide)
  have h1 := ht.one
  have h2 := hs.one
  have hrt := ht
  have hrs := hs
  obtain ⟨p1, c1, rfl⟩ := ht.len
  obtain ⟨p2, c2, rfl⟩ := hs.len
  refine Ctr.intro Try.func3 (by kernel_rfl) rfl (by conv => lhs; whnf) rfl fun W => ?_
  unfold errV at *
  apply Wpc.seqK; intro K hK
  apply Wpc.region
  refine Wpl.boxA rfl rfl (fun bx => ?_)
  repeat' (first | (apply Wpl.callP; exact rfl; exact rfl; exact rfl; exact rfl; (exact alive_spec); (exact HasF.nil)) | (apply Wpc.seqK; intro K hK) | apply Wpc.region | apply Wpl.nil | (apply hK; clear hK K) | (apply Wpl.mv; exact rfl; (conv => lhs; whnf)) | (apply Wpl.asg; exact rfl; (conv => lhs; whnf)) | (apply Wpl.guard_run; exact rfl; exact rfl) | (apply Wpl.pickF; exact rfl; exact rfl; (conv => lhs; whnf)) | (apply Wpc.cond_false; exact rfl) | apply Wpc.skip | (apply Wpl.unNot; exact rfl; exact rfl) | (apply Wpl.fldS; exact rfl; exact rfl; exact rfl; exact rfl) | (apply Wpl.ld0x0; exact rfl; exact rfl; exact rfl; exact rfl) | (apply Wpl.gtr; exact rfl; exact rfl; exact rfl; all_goals (intro h; try (exfalso; omega))) | (apply Wpl.len; exact rfl; exact rfl))
  refine Wpl.build (cs := [.int .i64 k, .slice p1 ts.length c1, .slice p2 st.length c2]) rfl rfl ?_
  refine Wpl.new rfl (fun b5 => ?_)
  refine Wpl.stAgg0 (cs := #[.int .i64 k, .slice p1 ts.length c1, .slice p2 st.length c2]) rfl rfl rfl rfl rfl (one_cons rfl (one_cons h1 (one_cons h2 one_nil))) rfl ?_
  repeat' (first | (apply Wpc.seqK; intro K hK) | apply Wpc.region | apply Wpl.nil | (apply hK; clear hK K))
  refine Wpl.callM rfl rfl rfl (newWriter_spec false) (Pk.nil _) HasF.nil ?_
  rintro vw _ ⟨FW, FB, rfl, hw⟩
  have hwl := wlen_spec hw
  repeat' (first | (apply Wpl.callP; exact rfl; exact rfl; exact rfl; exact rfl; (exact hfs); (refine HasF.cons (by (exact HasF.r 0 rfl)) (HasF.cons (by (exact HasF.r 1 rfl)) HasF.nil))) | (apply Wpc.seqK; intro K hK) | apply Wpc.region | apply Wpl.nil | (apply hK; clear hK K) | (apply Wpl.mv; exact rfl; (conv => lhs; whnf)) | (apply Wpl.asg; exact rfl; (conv => lhs; whnf)) | (apply Wpl.guard_skip; exact rfl; exact rfl; exact rfl) | (apply Wpl.guard_undef; exact rfl; exact rfl; exact rfl) | (apply Wpl.pickF; exact rfl; exact rfl; (conv => lhs; whnf)) | (apply Wpl.fldS; exact rfl; exact rfl; exact rfl; exact rfl) | (apply Wpl.ld3x0; exact rfl; exact rfl; exact rfl; exact rfl))
  refine Wpl.ldAgg 2 0 (cs := [.int .i64 k, .slice p1 ts.length c1, .slice p2 st.length c2]) rfl rfl rfl rfl rfl ?_
  repeat' (first | (apply Wpl.callP; exact rfl; exact rfl; exact rfl; exact rfl; (exact hbits); (refine HasF.cons (by (exact HasF.r 0 rfl)) (HasF.cons (by (exact HasF.r 1 rfl)) HasF.nil))) | (apply Wpc.seqK; intro K hK) | apply Wpc.region | apply Wpl.nil | (apply hK; clear hK K) | (apply Wpl.mv; exact rfl; (conv => lhs; whnf)) | (apply Wpl.asg; exact rfl; (conv => lhs; whnf)) | (apply Wpl.extract; exact rfl; exact rfl; exact rfl))
  refine Wpl.ldAgg 2 0 (cs := [.int .i64 k, .slice p1 ts.length c1, .slice p2 st.length c2]) rfl rfl rfl rfl rfl ?_
  repeat' (first | (apply Wpl.callP; exact rfl; exact rfl; exact rfl; exact rfl; (exact hwr vw); (refine HasF.cons (by (exact HasF.r 0 rfl)) (HasF.cons (by (exact HasF.r 1 rfl)) HasF.nil))) | (apply Wpl.callP; exact rfl; exact rfl; exact rfl; exact rfl; (exact hbest); (refine HasF.cons (by (exact HasF.r 0 rfl)) (HasF.cons (by (exact HasF.r 1 rfl)) HasF.nil))) | (apply Wpc.seqK; intro K hK) | apply Wpc.region | apply Wpl.nil | (apply hK; clear hK K) | (apply Wpl.mv; exact rfl; (conv => lhs; whnf)) | (apply Wpl.asg; exact rfl; (conv => lhs; whnf)) | (apply Wpl.extract; exact rfl; exact rfl; exact rfl) | (apply Wpl.fldS; exact rfl; exact rfl; exact rfl; exact rfl) | (apply Wpl.ld3x0; exact rfl; exact rfl; exact rfl; exact rfl) | (apply Wpl.new; exact rfl; intro _))
  refine Wpl.stAgg0 (cs := #[.int .i64 0, .slice none 0 0, .slice none 0 0]) rfl rfl rfl rfl rfl (one_cons rfl (one_cons rfl (one_cons rfl one_nil))) rfl ?_
  repeat' (first | (apply Wpc.seqK; intro K hK) | apply Wpl.nil | (apply hK; clear hK K) | (apply Wpl.asg; exact rfl; (conv => lhs; whnf)))
  refine Wpc.region_heldS 15 (by kernel_rfl) rfl rfl ?_
  refine Wph.take 0 rfl (by kernel_rfl) rfl (fun _ _ _ _ h => h) (fun _ h => h) (by first | exact Sel.refl _ | exact Sel.tail _ _ | exact Sel.nil _ | exact (Sel.tail _ _).trans (Sel.tail _ _) | exact (Sel.tail _ _).trans ((Sel.tail _ _).trans (Sel.tail _ _))) ?_
  refine Wpl.ldAgg 3 0 (cs := [.int .i64 k, .slice p1 ts.length c1, .slice p2 st.length c2]) rfl rfl rfl rfl rfl ?_
  repeat' (apply Wpl.nil)
  (refine Wph.take 1 rfl (by kernel_rfl) rfl (fun _ _ _ _ h => h) (fun _ h => h) (by first | exact Sel.refl _ | exact Sel.tail _ _ | exact Sel.nil _ | exact (Sel.tail _ _).trans (Sel.tail _ _) | exact (Sel.tail _ _).trans ((Sel.tail _ _).trans (Sel.tail _ _))) ?_; (repeat' (first | apply Wpl.nil | (apply Wpl.fldS; exact rfl; exact rfl; exact rfl; exact rfl)))); (refine Wph.take 2 rfl (by kernel_rfl) rfl (fun _ _ _ _ h => h) (fun _ h => h) (by first | exact Sel.refl _ | exact Sel.tail _ _ | exact Sel.nil _ | exact (Sel.tail _ _).trans (Sel.tail _ _) | exact (Sel.tail _ _).trans ((Sel.tail _ _).trans (Sel.tail _ _))) ?_; (repeat' (first | apply Wpl.nil | (apply Wpl.ld4x0; exact rfl; exact rfl; exact rfl; exact rfl)))); skip
  refine Wph.one 3 (by kernel_rfl) rfl rfl ?_
  repeat' (first | (apply Wpl.callP; exact rfl; exact rfl; exact rfl; exact rfl; (exact hwr (.pointer none)); (refine HasF.cons (by (exact HasF.r 0 rfl)) (HasF.cons (by (exact HasF.r 1 rfl)) HasF.nil))) | apply Wpl.nil)
  refine ⟨fun _ h => h, Sel.refl _, ?_⟩
  refine Wph.one 4 (by kernel_rfl) rfl rfl ?_
  repeat' (first | (apply Wpl.callP; exact rfl; exact rfl; exact rfl; exact rfl; (exact his); (exact HasF.nil)) | apply Wpl.nil)
  refine ⟨fun _ h => h, Sel.refl _, ?_⟩
  (refine Wph.take 5 rfl (by kernel_rfl) rfl (fun _ _ _ _ h => h) (fun _ h => h) (by first | exact Sel.refl _ | exact Sel.tail _ _ | exact Sel.nil _ | exact (Sel.tail _ _).trans (Sel.tail _ _) | exact (Sel.tail _ _).trans ((Sel.tail _ _).trans (Sel.tail _ _))) ?_; (repeat' (first | apply Wpl.nil | (apply Wpl.unNot; exact rfl; exact rfl)))); (refine Wph.take 6 rfl (by kernel_rfl) rfl (fun _ _ _ _ h => h) (fun _ h => h) (by first | exact Sel.refl _ | exact Sel.tail _ _ | exact Sel.nil _ | exact (Sel.tail _ _).trans (Sel.tail _ _) | exact (Sel.tail _ _).trans ((Sel.tail _ _).trans (Sel.tail _ _))) ?_; (repeat' (first | apply Wpl.nil | (apply Wpl.mv; exact rfl; (conv => lhs; whnf))))); skip
  refine Wph.take 8 rfl (by kernel_rfl) rfl (fun _ _ _ _ h => h) (fun _ h => h) (by first | exact Sel.refl _ | exact Sel.tail _ _ | exact Sel.nil _ | exact (Sel.tail _ _).trans (Sel.tail _ _) | exact (Sel.tail _ _).trans ((Sel.tail _ _).trans (Sel.tail _ _))) ?_
  refine Wpl.guard_run rfl rfl ?_
  refine Wpl.ldAgg 3 0 (cs := [.int .i64 k, .slice p1 ts.length c1, .slice p2 st.length c2]) rfl rfl rfl rfl rfl ?_
  repeat' (apply Wpl.nil)
  (refine Wph.take 9 rfl (by kernel_rfl) rfl (fun _ _ _ _ h => h) (fun _ h => h) (by first | exact Sel.refl _ | exact Sel.tail _ _ | exact Sel.nil _ | exact (Sel.tail _ _).trans (Sel.tail _ _) | exact (Sel.tail _ _).trans ((Sel.tail _ _).trans (Sel.tail _ _))) ?_; (repeat' (first | apply Wpl.nil | (apply Wpl.guard_run; exact rfl; exact rfl) | (apply Wpl.fldS; exact rfl; exact rfl; exact rfl; exact rfl)))); (refine Wph.take 10 rfl (by kernel_rfl) rfl (fun _ _ _ _ h => h) (fun _ h => h) (by first | exact Sel.refl _ | exact Sel.tail _ _ | exact Sel.nil _ | exact (Sel.tail _ _).trans (Sel.tail _ _) | exact (Sel.tail _ _).trans ((Sel.tail _ _).trans (Sel.tail _ _))) ?_; (repeat' (first | apply Wpl.nil | (apply Wpl.guard_run; exact rfl; exact rfl) | (apply Wpl.ld4x0; exact rfl; exact rfl; exact rfl; exact rfl)))); skip
  refine Wph.one 7 (by kernel_rfl) rfl rfl ?_
  refine Wpl.guard_run rfl rfl ?_
  refine Wpl.callM rfl rfl rfl (newWriter_spec true) (Pk.nil _) HasF.nil ?_
  rintro vw2 _ ⟨FW2, FB2, rfl, hw2⟩
  refine Wpl.nil ⟨fun _ h => h, ((Sel.tail _ _).trans (Sel.tail _ _)), ?_⟩
  have hwh := hwr vw2
  refine Wph.one 11 (by kernel_rfl) rfl rfl ?_
  repeat' (first | (apply Wpl.callP; exact rfl; exact rfl; exact rfl; exact rfl; (exact hwh); (refine HasF.cons (by (exact HasF.r 0 rfl)) (HasF.cons (by (exact HasF.r 1 rfl)) HasF.nil))) | apply Wpl.nil | (apply Wpl.guard_run; exact rfl; exact rfl))
  refine ⟨fun _ h => h, ((Sel.tail _ _).trans (Sel.tail _ _)), ?_⟩
  refine Wph.one 12 (by kernel_rfl) rfl rfl ?_
  repeat' (first | (apply Wpl.callP; exact rfl; exact rfl; exact rfl; exact rfl; (exact his); (exact HasF.nil)) | apply Wpl.nil | (apply Wpl.guard_run; exact rfl; exact rfl))
  refine ⟨fun _ h => h, ((Sel.tail _ _).trans (Sel.tail _ _)), ?_⟩
  (refine Wph.take 13 rfl (by kernel_rfl) rfl (fun _ _ _ _ h => h) (fun _ h => h) (by first | exact Sel.refl _ | exact Sel.tail _ _ | exact Sel.nil _ | exact (Sel.tail _ _).trans (Sel.tail _ _) | exact (Sel.tail _ _).trans ((Sel.tail _ _).trans (Sel.tail _ _))) ?_; (repeat' (first | apply Wpl.nil | (apply Wpl.guard_run; exact rfl; exact rfl) | (apply Wpl.unNot; exact rfl; exact rfl)))); (refine Wph.take 14 rfl (by kernel_rfl) rfl (fun _ _ _ _ h => h) (fun _ h => h) (by first | exact Sel.refl _ | exact Sel.tail _ _ | exact Sel.nil _ | exact (Sel.tail _ _).trans (Sel.tail _ _) | exact (Sel.tail _ _).trans ((Sel.tail _ _).trans (Sel.tail _ _))) ?_; (repeat' (first | apply Wpl.nil | (apply Wpl.pickF; exact rfl; exact rfl; (conv => lhs; whnf))))); skip
  refine Wph.done (by kernel_rfl) ?_
  repeat' (first | (apply Wpl.callP; exact rfl; exact rfl; exact rfl; exact rfl; (exact his); (exact HasF.nil)) | (apply Wpl.callP; exact rfl; exact rfl; exact rfl; exact rfl; (exact hwl); (refine HasF.cons (by (exact HasF.m 3 rfl)) HasF.nil)) | (apply Wpc.seqK; intro K hK) | apply Wpc.region | apply Wpl.nil | (apply hK; clear hK K) | (apply Wpl.mv; exact rfl; (conv => lhs; whnf)) | (apply Wpl.asg; exact rfl; (conv => lhs; whnf)) | (apply Wpl.guard_run; exact rfl; exact rfl) | (apply Wpl.pickT; exact rfl; exact rfl; (conv => lhs; whnf)) | (apply Wpl.pickF; exact rfl; exact rfl; (conv => lhs; whnf)) | (apply Wpc.cond_true; exact rfl) | (apply Wpc.cond_false; exact rfl) | apply Wpc.skip | apply Wpc.ret | (apply Wpl.unNot; exact rfl; exact rfl) | (apply Wpl.eql; exact rfl; exact rfl; exact rfl; all_goals (intro h; try (exfalso; omega))) | (apply Wpl.errEq; exact rfl; exact rfl) | (apply Wpl.boolNe; exact rfl; exact rfl; exact rfl; exact rfl))
  all_goals first | (exfalso; omega) | exact ⟨[_], [], ⟨rfl, trivial⟩, Sel.nil _, fun _ h => h, rfl, rfl⟩
theorem forms_fit (hf : fits ts st) (hk : k < 0 ∨ k > 2 ∨ (k = 0 ∧ st.length > 65535)) (h3 : ts.length ≤ 300) (h7 : st.length ≤ 70000) : PSpec Try.prog 3 [.agg #[vb, vt, .int .i64 k, .bool last], vs] [Ft, Fs] (.bool true) := by
  have hc : ¬ checkOk k ts st := fun h => by
    have h1 := h.1
    have h2 := h.2.2
    omega
  have hbits := bits_bad k Ft Fs vt vs ts st ht hs h8 (by omega) (by omega) hc
  have hwr := fun vw => write_bad last k Ft Fs vt vs ts st ht hs h8 (by omega) (by omega) vw hc
  have hbest := best_ok Ft Fs vt vs ts st ht hs h8 (by omega) (by omega) hf
  have hfs := fits_spec Ft Fs vt vs ts st ht hs h8 (by omega) (by omega)
  rw [← Value.bool.inj (fitsB_true hf)] at hfs
  have his : PSpec Try.prog 13 [.iface 40 (.int .i64 6), .int .i64 6] [] (.bool true) := is_spec 6 6 (by decide)
  have h1 := ht.one
  have h2 := hs.one
  have hrt := ht
  have hrs := hs
  obtain ⟨p1, c1, rfl⟩ := ht.len
  obtain ⟨p2, c2, rfl⟩ := hs.len
  refine Ctr.intro Try.func3 (by kernel_rfl) rfl (by conv => lhs; whnf) rfl fun W => ?_
  unfold errV at *
  apply Wpc.seqK; intro K hK
  apply Wpc.region
  refine Wpl.boxA rfl rfl (fun bx => ?_)
  repeat' (first | (apply Wpl.callP; exact rfl; exact rfl; exact rfl; exact rfl; (exact alive_spec); (exact HasF.nil)) | (apply Wpc.seqK; intro K hK) | apply Wpc.region | apply Wpl.nil | (apply hK; clear hK K) | (apply Wpl.mv; exact rfl; (conv => lhs; whnf)) | (apply Wpl.asg; exact rfl; (conv => lhs; whnf)) | (apply Wpl.guard_run; exact rfl; exact rfl) | (apply Wpl.pickF; exact rfl; exact rfl; (conv => lhs; whnf)) | (apply Wpc.cond_false; exact rfl) | apply Wpc.skip | (apply Wpl.unNot; exact rfl; exact rfl) | (apply Wpl.fldS; exact rfl; exact rfl; exact rfl; exact rfl) | (apply Wpl.ld0x0; exact rfl; exact rfl; exact rfl; exact rfl) | (apply Wpl.gtr; exact rfl; exact rfl; exact rfl; all_goals (intro h; try (exfalso; omega))) | (apply Wpl.len; exact rfl; exact rfl))
  refine Wpl.build (cs := [.int .i64 k, .slice p1 ts.length c1, .slice p2 st.length c2]) rfl rfl ?_
  refine Wpl.new rfl (fun b5 => ?_)
  refine Wpl.stAgg0 (cs := #[.int .i64 k, .slice p1 ts.length c1, .slice p2 st.length c2]) rfl rfl rfl rfl rfl (one_cons rfl (one_cons h1 (one_cons h2 one_nil))) rfl ?_
  repeat' (first | (apply Wpc.seqK; intro K hK) | apply Wpc.region | apply Wpl.nil | (apply hK; clear hK K))
  refine Wpl.callM rfl rfl rfl (newWriter_spec false) (Pk.nil _) HasF.nil ?_
  rintro vw _ ⟨FW, FB, rfl, hw⟩
  have hwl := wlen_spec hw
  repeat' (first | (apply Wpl.callP; exact rfl; exact rfl; exact rfl; exact rfl; (exact hfs); (refine HasF.cons (by (exact HasF.r 0 rfl)) (HasF.cons (by (exact HasF.r 1 rfl)) HasF.nil))) | (apply Wpc.seqK; intro K hK) | apply Wpc.region | apply Wpl.nil | (apply hK; clear hK K) | (apply Wpl.mv; exact rfl; (conv => lhs; whnf)) | (apply Wpl.asg; exact rfl; (conv => lhs; whnf)) | (apply Wpl.guard_run; exact rfl; exact rfl) | (apply Wpl.fldS; exact rfl; exact rfl; exact rfl; exact rfl) | (apply Wpl.ld3x0; exact rfl; exact rfl; exact rfl; exact rfl))
  have tail := cutHere hK [(1, .slice p2 st.length c2), (2, .pointer (some ⟨bx, 0, none⟩)), (5, .pointer (some ⟨b5, 0, none⟩)), (6, vw), (7, .bool true), (8, .bool false)] [Ft, Fs]
    [FW, FB, [(b5, .cells #[.int .i64 k, .slice p1 ts.length c1, .slice p2 st.length c2] 28 (0, 0))], [(bx, .cells #[vb, .slice p1 ts.length c1, .int .i64 k, .bool last] 25 (0, 0))]] ?_
  · repeat' (first | (apply tail; exact ⟨rfl, rfl, rfl, rfl, rfl, rfl, trivial⟩) | apply Wpl.nil | (apply Wpl.mv; exact rfl; (conv => lhs; whnf)) | (apply Wpl.asg; exact rfl; (conv => lhs; whnf)) | (apply Wpl.guard_run; exact rfl; exact rfl) | (apply Wpl.guard_skip; exact rfl; exact rfl; exact rfl) | (apply Wpl.guard_undef; exact rfl; exact rfl; exact rfl) | (apply Wpl.pickT; exact rfl; exact rfl; (conv => lhs; whnf)) | (apply Wpl.pickF; exact rfl; exact rfl; (conv => lhs; whnf)) | (apply Wpl.fldS; exact rfl; exact rfl; exact rfl; exact rfl) | (apply Wpl.ld3x0; exact rfl; exact rfl; exact rfl; exact rfl) | (apply Wpl.leq; exact rfl; exact rfl; exact rfl; all_goals (intro h; try (exfalso; omega))) | (apply Wpl.gtr; exact rfl; exact rfl; exact rfl; all_goals (intro h; try (exfalso; omega))) | (apply Wpl.geq; exact rfl; exact rfl; exact rfl; all_goals (intro h; try (exfalso; omega))) | (apply Wpl.len; exact rfl; exact rfl))
  clear hK K
  intro g
  repeat' (first | (apply Wpc.seqK; intro K hK) | apply Wpc.region)
  refine Wpl.ldAgg 2 0 (cs := [.int .i64 k, .slice p1 ts.length c1, .slice p2 st.length c2]) rfl rfl rfl rfl rfl ?_
  repeat' (first | (apply Wpl.callP; exact rfl; exact rfl; exact rfl; exact rfl; (exact hbits); (refine HasF.cons (by (exact HasF.r 0 rfl)) (HasF.cons (by (exact HasF.r 1 rfl)) HasF.nil))) | (apply Wpc.seqK; intro K hK) | apply Wpc.region | apply Wpl.nil | (apply hK; clear hK K) | (apply Wpl.mv; exact rfl; (conv => lhs; whnf)) | (apply Wpl.asg; exact rfl; (conv => lhs; whnf)) | (apply Wpl.extract; exact rfl; exact rfl; exact rfl))
  refine Wpl.ldAgg 2 0 (cs := [.int .i64 k, .slice p1 ts.length c1, .slice p2 st.length c2]) rfl rfl rfl rfl rfl ?_
  repeat' (first | (apply Wpl.callP; exact rfl; exact rfl; exact rfl; exact rfl; (exact hwr vw); (refine HasF.cons (by (exact HasF.r 0 rfl)) (HasF.cons (by (exact HasF.r 1 rfl)) HasF.nil))) | (apply Wpc.seqK; intro K hK) | apply Wpc.region | apply Wpl.nil | (apply hK; clear hK K) | (apply Wpl.mv; exact rfl; (conv => lhs; whnf)) | (apply Wpl.asg; exact rfl; (conv => lhs; whnf)) | (apply Wpl.fldS; exact rfl; exact rfl; exact rfl; exact rfl) | (apply Wpl.ld3x0; exact rfl; exact rfl; exact rfl; exact rfl))
  refine Wpl.callM rfl rfl rfl hbest (Pk.nil _) (HasF.cons (HasF.r 0 rfl) (HasF.cons (HasF.r 1 rfl) HasF.nil)) ?_
  rintro _ _ ⟨vt', vs', F1, F2, rfl, rfl, hr1, hr2⟩
  refine Wpl.sel ((Sel.tail _ _).trans (Sel.tail _ _)) ?_
  have hr1 := hr1.one
  have hr2 := hr2.one
  generalize (bestP ts st 3).1 = kb
  unfold blkV
  repeat' (first | (apply Wpl.mv; exact rfl; (conv => lhs; whnf)) | (apply Wpl.extract; exact rfl; exact rfl; exact rfl) | (apply Wpl.new; exact rfl; intro _))
  refine Wpl.stAgg0 (cs := #[.int .i64 kb, vt', vs']) rfl rfl rfl rfl rfl (one_cons rfl (one_cons hr1 (one_cons hr2 one_nil))) rfl ?_
  repeat' (first | (apply Wpc.seqK; intro K hK) | apply Wpl.nil | (apply hK; clear hK K) | (apply Wpl.asg; exact rfl; (conv => lhs; whnf)))
  refine Wpc.region_heldS 15 (by kernel_rfl) rfl rfl ?_
  refine Wph.take 0 rfl (by kernel_rfl) rfl (fun _ _ _ _ h => h) (fun _ h => h) (by first | exact Sel.refl _ | exact Sel.tail _ _ | exact Sel.nil _ | exact (Sel.tail _ _).trans (Sel.tail _ _) | exact (Sel.tail _ _).trans ((Sel.tail _ _).trans (Sel.tail _ _))) ?_
  refine Wpl.ldAgg 3 0 (cs := [.int .i64 k, .slice p1 ts.length c1, .slice p2 st.length c2]) rfl rfl rfl rfl rfl ?_
  repeat' (apply Wpl.nil)
  (refine Wph.take 1 rfl (by kernel_rfl) rfl (fun _ _ _ _ h => h) (fun _ h => h) (by first | exact Sel.refl _ | exact Sel.tail _ _ | exact Sel.nil _ | exact (Sel.tail _ _).trans (Sel.tail _ _) | exact (Sel.tail _ _).trans ((Sel.tail _ _).trans (Sel.tail _ _))) ?_; (repeat' (first | apply Wpl.nil | (apply Wpl.fldS; exact rfl; exact rfl; exact rfl; exact rfl)))); (refine Wph.take 2 rfl (by kernel_rfl) rfl (fun _ _ _ _ h => h) (fun _ h => h) (by first | exact Sel.refl _ | exact Sel.tail _ _ | exact Sel.nil _ | exact (Sel.tail _ _).trans (Sel.tail _ _) | exact (Sel.tail _ _).trans ((Sel.tail _ _).trans (Sel.tail _ _))) ?_; (repeat' (first | apply Wpl.nil | (apply Wpl.ld4x0; exact rfl; exact rfl; exact rfl; exact rfl)))); skip
  refine Wph.one 3 (by kernel_rfl) rfl rfl ?_
  repeat' (first | (apply Wpl.callP; exact rfl; exact rfl; exact rfl; exact rfl; (exact hwr (.pointer none)); (refine HasF.cons (by (exact HasF.r 0 rfl)) (HasF.cons (by (exact HasF.r 1 rfl)) HasF.nil))) | apply Wpl.nil)
  refine ⟨fun _ h => h, Sel.refl _, ?_⟩
  refine Wph.one 4 (by kernel_rfl) rfl rfl ?_
  repeat' (first | (apply Wpl.callP; exact rfl; exact rfl; exact rfl; exact rfl; (exact his); (exact HasF.nil)) | apply Wpl.nil)
  refine ⟨fun _ h => h, Sel.refl _, ?_⟩
  (refine Wph.take 5 rfl (by kernel_rfl) rfl (fun _ _ _ _ h => h) (fun _ h => h) (by first | exact Sel.refl _ | exact Sel.tail _ _ | exact Sel.nil _ | exact (Sel.tail _ _).trans (Sel.tail _ _) | exact (Sel.tail _ _).trans ((Sel.tail _ _).trans (Sel.tail _ _))) ?_; (repeat' (first | apply Wpl.nil | (apply Wpl.unNot; exact rfl; exact rfl)))); (refine Wph.take 6 rfl (by kernel_rfl) rfl (fun _ _ _ _ h => h) (fun _ h => h) (by first | exact Sel.refl _ | exact Sel.tail _ _ | exact Sel.nil _ | exact (Sel.tail _ _).trans (Sel.tail _ _) | exact (Sel.tail _ _).trans ((Sel.tail _ _).trans (Sel.tail _ _))) ?_; (repeat' (first | apply Wpl.nil | (apply Wpl.mv; exact rfl; (conv => lhs; whnf))))); skip
  refine Wph.take 8 rfl (by kernel_rfl) rfl (fun _ _ _ _ h => h) (fun _ h => h) (by first | exact Sel.refl _ | exact Sel.tail _ _ | exact Sel.nil _ | exact (Sel.tail _ _).trans (Sel.tail _ _) | exact (Sel.tail _ _).trans ((Sel.tail _ _).trans (Sel.tail _ _))) ?_
  refine Wpl.guard_run rfl rfl ?_
  refine Wpl.ldAgg 3 0 (cs := [.int .i64 k, .slice p1 ts.length c1, .slice p2 st.length c2]) rfl rfl rfl rfl rfl ?_
  repeat' (apply Wpl.nil)
  (refine Wph.take 9 rfl (by kernel_rfl) rfl (fun _ _ _ _ h => h) (fun _ h => h) (by first | exact Sel.refl _ | exact Sel.tail _ _ | exact Sel.nil _ | exact (Sel.tail _ _).trans (Sel.tail _ _) | exact (Sel.tail _ _).trans ((Sel.tail _ _).trans (Sel.tail _ _))) ?_; (repeat' (first | apply Wpl.nil | (apply Wpl.guard_run; exact rfl; exact rfl) | (apply Wpl.fldS; exact rfl; exact rfl; exact rfl; exact rfl)))); (refine Wph.take 10 rfl (by kernel_rfl) rfl (fun _ _ _ _ h => h) (fun _ h => h) (by first | exact Sel.refl _ | exact Sel.tail _ _ | exact Sel.nil _ | exact (Sel.tail _ _).trans (Sel.tail _ _) | exact (Sel.tail _ _).trans ((Sel.tail _ _).trans (Sel.tail _ _))) ?_; (repeat' (first | apply Wpl.nil | (apply Wpl.guard_run; exact rfl; exact rfl) | (apply Wpl.ld4x0; exact rfl; exact rfl; exact rfl; exact rfl)))); skip
  refine Wph.one 7 (by kernel_rfl) rfl rfl ?_
  refine Wpl.guard_run rfl rfl ?_
  refine Wpl.callM rfl rfl rfl (newWriter_spec true) (Pk.nil _) HasF.nil ?_
  rintro vw2 _ ⟨FW2, FB2, rfl, hw2⟩
  refine Wpl.nil ⟨fun _ h => h, ((Sel.tail _ _).trans (Sel.tail _ _)), ?_⟩
  have hwh := hwr vw2
  refine Wph.one 11 (by kernel_rfl) rfl rfl ?_
  repeat' (first | (apply Wpl.callP; exact rfl; exact rfl; exact rfl; exact rfl; (exact hwh); (refine HasF.cons (by (exact HasF.r 0 rfl)) (HasF.cons (by (exact HasF.r 1 rfl)) HasF.nil))) | apply Wpl.nil | (apply Wpl.guard_run; exact rfl; exact rfl))
  refine ⟨fun _ h => h, ((Sel.tail _ _).trans (Sel.tail _ _)), ?_⟩
  refine Wph.one 12 (by kernel_rfl) rfl rfl ?_
  repeat' (first | (apply Wpl.callP; exact rfl; exact rfl; exact rfl; exact rfl; (exact his); (exact HasF.nil)) | apply Wpl.nil | (apply Wpl.guard_run; exact rfl; exact rfl))
  refine ⟨fun _ h => h, ((Sel.tail _ _).trans (Sel.tail _ _)), ?_⟩
  (refine Wph.take 13 rfl (by kernel_rfl) rfl (fun _ _ _ _ h => h) (fun _ h => h) (by first | exact Sel.refl _ | exact Sel.tail _ _ | exact Sel.nil _ | exact (Sel.tail _ _).trans (Sel.tail _ _) | exact (Sel.tail _ _).trans ((Sel.tail _ _).trans (Sel.tail _ _))) ?_; (repeat' (first | apply Wpl.nil | (apply Wpl.guard_run; exact rfl; exact rfl) | (apply Wpl.unNot; exact rfl; exact rfl)))); (refine Wph.take 14 rfl (by kernel_rfl) rfl (fun _ _ _ _ h => h) (fun _ h => h) (by first | exact Sel.refl _ | exact Sel.tail _ _ | exact Sel.nil _ | exact (Sel.tail _ _).trans (Sel.tail _ _) | exact (Sel.tail _ _).trans ((Sel.tail _ _).trans (Sel.tail _ _))) ?_; (repeat' (first | apply Wpl.nil | (apply Wpl.pickF; exact rfl; exact rfl; (conv => lhs; whnf))))); skip
  refine Wph.done (by kernel_rfl) ?_
  repeat' (first | (apply Wpl.callP; exact rfl; exact rfl; exact rfl; exact rfl; (exact his); (exact HasF.nil)) | (apply Wpl.callP; exact rfl; exact rfl; exact rfl; exact rfl; (exact hwl); (refine HasF.cons (by (exact HasF.m 3 rfl)) HasF.nil)) | (apply Wpc.seqK; intro K hK) | apply Wpc.region | apply Wpl.nil | (apply hK; clear hK K) | (apply Wpl.mv; exact rfl; (conv => lhs; whnf)) | (apply Wpl.asg; exact rfl; (conv => lhs; whnf)) | (apply Wpl.guard_run; exact rfl; exact rfl) | (apply Wpl.guard_skip; exact rfl; exact rfl; exact rfl) | (apply Wpl.pickT; exact rfl; exact rfl; (conv => lhs; whnf)) | (apply Wpl.pickF; exact rfl; exact rfl; (conv => lhs; whnf)) | (apply Wpc.cond_true; exact rfl) | (apply Wpc.cond_false; exact rfl) | apply Wpc.skip | apply Wpc.ret | (apply Wpl.unNot; exact rfl; exact rfl) | (apply Wpl.eql; exact rfl; exact rfl; exact rfl; all_goals (intro h; try (exfalso; omega))) | (apply Wpl.errEqNil; exact rfl; exact rfl) | (apply Wpl.boolNe; exact rfl; exact rfl; exact rfl; exact rfl))
  all_goals first | (exfalso; omega) | exact ⟨[_], [], ⟨rfl, trivial⟩, Sel.nil _, fun _ h => h, rfl, rfl⟩
theorem forms_ok (hc : checkOk k ts st) (h3 : ts.length ≤ 300) (h7 : st.length ≤ 70000) : PSpec Try.prog 3 [.agg #[vb, vt, .int .i64 k, .bool last], vs] [Ft, Fs] (.bool true) := by
  have hf := hc.2.1
  have hk1 := hc.1
  have hk2 := hc.2.2
  have hge := writeM_ge last k ts st ([], 0)
  dsimp only at hge
  have hbits := bits_ok k Ft Fs vt vs ts st ht hs h8 (by omega) (by omega) hc
  have hwn := write_nil last k Ft Fs vt vs ts st ht hs h8 (by omega) (by omega) hc
  have hbest := best_ok Ft Fs vt vs ts st ht hs h8 (by omega) (by omega) hf
  have hfs := fits_spec Ft Fs vt vs ts st ht hs h8 (by omega) (by omega)
  rw [← Value.bool.inj (fitsB_true hf)] at hfs
  have his : PSpec Try.prog 13 [.iface 40 (.int .i64 6), .int .i64 6] [] (.bool true) := is_spec 6 6 (by decide)
  have h1 := ht.one
  have h2 := hs.one
  have hrt := ht
  have hrs := hs
  obtain ⟨p1, c1, rfl⟩ := ht.len
  obtain ⟨p2, c2, rfl⟩ := hs.len
  refine Ctr.intro Try.func3 (by kernel_rfl) rfl (by conv => lhs; whnf) rfl fun W => ?_
  unfold errV at *
  apply Wpc.seqK; intro K hK
  apply Wpc.region
  refine Wpl.boxA rfl rfl (fun bx => ?_)
  repeat' (first | (apply Wpl.callP; exact rfl; exact rfl; exact rfl; exact rfl; (exact alive_spec); (exact HasF.nil)) | (apply Wpc.seqK; intro K hK) | apply Wpc.region | apply Wpl.nil | (apply hK; clear hK K) | (apply Wpl.mv; exact rfl; (conv => lhs; whnf)) | (apply Wpl.asg; exact rfl; (conv => lhs; whnf)) | (apply Wpl.guard_run; exact rfl; exact rfl) | (apply Wpl.pickF; exact rfl; exact rfl; (conv => lhs; whnf)) | (apply Wpc.cond_false; exact rfl) | apply Wpc.skip | (apply Wpl.unNot; exact rfl; exact rfl) | (apply Wpl.fldS; exact rfl; exact rfl; exact rfl; exact rfl) | (apply Wpl.ld0x0; exact rfl; exact rfl; exact rfl; exact rfl) | (apply Wpl.gtr; exact rfl; exact rfl; exact rfl; all_goals (intro h; try (exfalso; omega))) | (apply Wpl.len; exact rfl; exact rfl))
  refine Wpl.build (cs := [.int .i64 k, .slice p1 ts.length c1, .slice p2 st.length c2]) rfl rfl ?_
  refine Wpl.new rfl (fun b5 => ?_)
  refine Wpl.stAgg0 (cs := #[.int .i64 k, .slice p1 ts.length c1, .slice p2 st.length c2]) rfl rfl rfl rfl rfl (one_cons rfl (one_cons h1 (one_cons h2 one_nil))) rfl ?_
  repeat' (first | (apply Wpc.seqK; intro K hK) | apply Wpc.region | apply Wpl.nil | (apply hK; clear hK K))
  refine Wpl.callM rfl rfl rfl (newWriter_spec false) (Pk.nil _) HasF.nil ?_
  rintro vw _ ⟨FW, FB, rfl, hw⟩
  repeat' (first | (apply Wpl.callP; exact rfl; exact rfl; exact rfl; exact rfl; (exact hfs); (refine HasF.cons (by (exact HasF.r 0 rfl)) (HasF.cons (by (exact HasF.r 1 rfl)) HasF.nil))) | (apply Wpc.seqK; intro K hK) | apply Wpc.region | apply Wpl.nil | (apply hK; clear hK K) | (apply Wpl.mv; exact rfl; (conv => lhs; whnf)) | (apply Wpl.asg; exact rfl; (conv => lhs; whnf)) | (apply Wpl.guard_run; exact rfl; exact rfl) | (apply Wpl.fldS; exact rfl; exact rfl; exact rfl; exact rfl) | (apply Wpl.ld3x0; exact rfl; exact rfl; exact rfl; exact rfl))
  have tail := cutHere hK [(1, .slice p2 st.length c2), (2, .pointer (some ⟨bx, 0, none⟩)), (5, .pointer (some ⟨b5, 0, none⟩)), (6, vw), (7, .bool true), (8, .bool true)] [Ft, Fs]
    [FW, FB, [(b5, .cells #[.int .i64 k, .slice p1 ts.length c1, .slice p2 st.length c2] 28 (0, 0))], [(bx, .cells #[vb, .slice p1 ts.length c1, .int .i64 k, .bool last] 25 (0, 0))]] ?_
  · repeat' (first | (apply tail; exact ⟨rfl, rfl, rfl, rfl, rfl, rfl, trivial⟩) | apply Wpl.nil | (apply Wpl.mv; exact rfl; (conv => lhs; whnf)) | (apply Wpl.asg; exact rfl; (conv => lhs; whnf)) | (apply Wpl.guard_run; exact rfl; exact rfl) | (apply Wpl.guard_skip; exact rfl; exact rfl; exact rfl) | (apply Wpl.pickT; exact rfl; exact rfl; (conv => lhs; whnf)) | (apply Wpl.pickF; exact rfl; exact rfl; (conv => lhs; whnf)) | (apply Wpl.fldS; exact rfl; exact rfl; exact rfl; exact rfl) | (apply Wpl.ld3x0; exact rfl; exact rfl; exact rfl; exact rfl) | (apply Wpl.leq; exact rfl; exact rfl; exact rfl; all_goals (intro h; try (exfalso; omega))) | (apply Wpl.gtr; exact rfl; exact rfl; exact rfl; all_goals (intro h; try (exfalso; omega))) | (apply Wpl.geq; exact rfl; exact rfl; exact rfl; all_goals (intro h; try (exfalso; omega))) | (apply Wpl.len; exact rfl; exact rfl))
  clear hK K
  intro g
  repeat' (first | (apply Wpc.seqK; intro K hK) | apply Wpc.region)
  refine Wpl.ldAgg 2 0 (cs := [.int .i64 k, .slice p1 ts.length c1, .slice p2 st.length c2]) rfl rfl rfl rfl rfl ?_
  repeat' (first | (apply Wpl.callP; exact rfl; exact rfl; exact rfl; exact rfl; (exact hbits); (refine HasF.cons (by (exact HasF.r 0 rfl)) (HasF.cons (by (exact HasF.r 1 rfl)) HasF.nil))) | (apply Wpc.seqK; intro K hK) | apply Wpc.region | apply Wpl.nil | (apply hK; clear hK K) | (apply Wpl.mv; exact rfl; (conv => lhs; whnf)) | (apply Wpl.asg; exact rfl; (conv => lhs; whnf)) | (apply Wpl.extract; exact rfl; exact rfl; exact rfl))
  refine Wpl.ldAgg 2 0 (cs := [.int .i64 k, .slice p1 ts.length c1, .slice p2 st.length c2]) rfl rfl rfl rfl rfl ?_
  repeat' (first | (apply Wpl.fldS; exact rfl; exact rfl; exact rfl; exact rfl) | (apply Wpl.ld3x0; exact rfl; exact rfl; exact rfl; exact rfl))
  refine Wpl.callM rfl rfl rfl (write_ok last k Ft Fs _ _ ts st hrt hrs h8 (by omega) (by omega) (p := ([], 0)) hw (by decide) hc) (Pk.cons 0 rfl (Pk.cons 0 rfl (Pk.nil _))) (HasF.cons (HasF.r 0 rfl) (HasF.cons (HasF.r 1 rfl) HasF.nil)) ?_
  rintro _ _ ⟨FW1, FB1, rfl, rfl, hw1⟩
  have hwl := wlen_spec hw1
  generalize (writeM last k ts st ([], 0)).2 = nw at *
  repeat' (first | (apply Wpc.seqK; intro K hK) | apply Wpc.region | apply Wpl.nil | (apply hK; clear hK K) | (apply Wpl.mv; exact rfl; (conv => lhs; whnf)) | (apply Wpl.asg; exact rfl; (conv => lhs; whnf)) | (apply Wpl.fldS; exact rfl; exact rfl; exact rfl; exact rfl) | (apply Wpl.ld3x0; exact rfl; exact rfl; exact rfl; exact rfl))
  refine Wpl.callM rfl rfl rfl hbest (Pk.nil _) (HasF.cons (HasF.r 0 rfl) (HasF.cons (HasF.r 1 rfl) HasF.nil)) ?_
  rintro _ _ ⟨vt', vs', F1, F2, rfl, rfl, hr1, hr2⟩
  refine Wpl.sel ((Sel.tail _ _).trans (Sel.tail _ _)) ?_
  have hr1 := hr1.one
  have hr2 := hr2.one
  generalize (bestP ts st 3).1 = kb
  unfold blkV
  repeat' (first | (apply Wpl.mv; exact rfl; (conv => lhs; whnf)) | (apply Wpl.extract; exact rfl; exact rfl; exact rfl) | (apply Wpl.new; exact rfl; intro _))
  refine Wpl.stAgg0 (cs := #[.int .i64 kb, vt', vs']) rfl rfl rfl rfl rfl (one_cons rfl (one_cons hr1 (one_cons hr2 one_nil))) rfl ?_
  repeat' (first | (apply Wpc.seqK; intro K hK) | apply Wpl.nil | (apply hK; clear hK K) | (apply Wpl.asg; exact rfl; (conv => lhs; whnf)))
  refine Wpc.region_heldS 15 (by kernel_rfl) rfl rfl ?_
  refine Wph.take 0 rfl (by kernel_rfl) rfl (fun _ _ _ _ h => h) (fun _ h => h) (by first | exact Sel.refl _ | exact Sel.tail _ _ | exact Sel.nil _ | exact (Sel.tail _ _).trans (Sel.tail _ _) | exact (Sel.tail _ _).trans ((Sel.tail _ _).trans (Sel.tail _ _))) ?_
  refine Wpl.ldAgg 3 0 (cs := [.int .i64 k, .slice p1 ts.length c1, .slice p2 st.length c2]) rfl rfl rfl rfl rfl ?_
  repeat' (apply Wpl.nil)
  (refine Wph.take 1 rfl (by kernel_rfl) rfl (fun _ _ _ _ h => h) (fun _ h => h) (by first | exact Sel.refl _ | exact Sel.tail _ _ | exact Sel.nil _ | exact (Sel.tail _ _).trans (Sel.tail _ _) | exact (Sel.tail _ _).trans ((Sel.tail _ _).trans (Sel.tail _ _))) ?_; (repeat' (first | apply Wpl.nil | (apply Wpl.fldS; exact rfl; exact rfl; exact rfl; exact rfl)))); (refine Wph.take 2 rfl (by kernel_rfl) rfl (fun _ _ _ _ h => h) (fun _ h => h) (by first | exact Sel.refl _ | exact Sel.tail _ _ | exact Sel.nil _ | exact (Sel.tail _ _).trans (Sel.tail _ _) | exact (Sel.tail _ _).trans ((Sel.tail _ _).trans (Sel.tail _ _))) ?_; (repeat' (first | apply Wpl.nil | (apply Wpl.ld4x0; exact rfl; exact rfl; exact rfl; exact rfl)))); skip
  refine Wph.one 3 (by kernel_rfl) rfl rfl ?_
  repeat' (first | (apply Wpl.callP; exact rfl; exact rfl; exact rfl; exact rfl; (exact hwn); (refine HasF.cons (by (exact HasF.r 0 rfl)) (HasF.cons (by (exact HasF.r 1 rfl)) HasF.nil))) | apply Wpl.nil)
  refine ⟨fun _ h => h, Sel.refl _, ?_⟩
  refine Wph.one 4 (by kernel_rfl) rfl rfl ?_
  repeat' (first | (apply Wpl.callP; exact rfl; exact rfl; exact rfl; exact rfl; (exact his); (exact HasF.nil)) | apply Wpl.nil)
  refine ⟨fun _ h => h, Sel.refl _, ?_⟩
  (refine Wph.take 5 rfl (by kernel_rfl) rfl (fun _ _ _ _ h => h) (fun _ h => h) (by first | exact Sel.refl _ | exact Sel.tail _ _ | exact Sel.nil _ | exact (Sel.tail _ _).trans (Sel.tail _ _) | exact (Sel.tail _ _).trans ((Sel.tail _ _).trans (Sel.tail _ _))) ?_; (repeat' (first | apply Wpl.nil | (apply Wpl.unNot; exact rfl; exact rfl)))); (refine Wph.take 6 rfl (by kernel_rfl) rfl (fun _ _ _ _ h => h) (fun _ h => h) (by first | exact Sel.refl _ | exact Sel.tail _ _ | exact Sel.nil _ | exact (Sel.tail _ _).trans (Sel.tail _ _) | exact (Sel.tail _ _).trans ((Sel.tail _ _).trans (Sel.tail _ _))) ?_; (repeat' (first | apply Wpl.nil | (apply Wpl.mv; exact rfl; (conv => lhs; whnf))))); skip
  refine Wph.take 8 rfl (by kernel_rfl) rfl (fun _ _ _ _ h => h) (fun _ h => h) (by first | exact Sel.refl _ | exact Sel.tail _ _ | exact Sel.nil _ | exact (Sel.tail _ _).trans (Sel.tail _ _) | exact (Sel.tail _ _).trans ((Sel.tail _ _).trans (Sel.tail _ _))) ?_
  refine Wpl.guard_run rfl rfl ?_
  refine Wpl.ldAgg 3 0 (cs := [.int .i64 k, .slice p1 ts.length c1, .slice p2 st.length c2]) rfl rfl rfl rfl rfl ?_
  repeat' (apply Wpl.nil)
  (refine Wph.take 9 rfl (by kernel_rfl) rfl (fun _ _ _ _ h => h) (fun _ h => h) (by first | exact Sel.refl _ | exact Sel.tail _ _ | exact Sel.nil _ | exact (Sel.tail _ _).trans (Sel.tail _ _) | exact (Sel.tail _ _).trans ((Sel.tail _ _).trans (Sel.tail _ _))) ?_; (repeat' (first | apply Wpl.nil | (apply Wpl.guard_run; exact rfl; exact rfl) | (apply Wpl.fldS; exact rfl; exact rfl; exact rfl; exact rfl)))); (refine Wph.take 10 rfl (by kernel_rfl) rfl (fun _ _ _ _ h => h) (fun _ h => h) (by first | exact Sel.refl _ | exact Sel.tail _ _ | exact Sel.nil _ | exact (Sel.tail _ _).trans (Sel.tail _ _) | exact (Sel.tail _ _).trans ((Sel.tail _ _).trans (Sel.tail _ _))) ?_; (repeat' (first | apply Wpl.nil | (apply Wpl.guard_run; exact rfl; exact rfl) | (apply Wpl.ld4x0; exact rfl; exact rfl; exact rfl; exact rfl)))); skip
  refine Wph.one 7 (by kernel_rfl) rfl rfl ?_
  refine Wpl.guard_run rfl rfl ?_
  refine Wpl.callM rfl rfl rfl (newWriter_spec true) (Pk.nil _) HasF.nil ?_
  rintro vw2 _ ⟨FW2, FB2, rfl, hw2⟩
  refine Wpl.nil ⟨fun _ h => h, ((Sel.tail _ _).trans (Sel.tail _ _)), ?_⟩
  have hwh := write_high last k Ft Fs _ _ ts st hrt hrs h8 (by omega) (by omega) hw2 hc
  unfold errV at hwh
  refine Wph.one 11 (by kernel_rfl) rfl rfl ?_
  repeat' (first | (apply Wpl.callP; exact rfl; exact rfl; exact rfl; exact rfl; (exact hwh); (refine HasF.cons (by (exact HasF.r 0 rfl)) (HasF.cons (by (exact HasF.r 1 rfl)) (HasF.cons (by (exact HasF.m 0 rfl)) HasF.nil)))) | apply Wpl.nil | (apply Wpl.guard_run; exact rfl; exact rfl))
  refine ⟨fun _ h => h, ((Sel.tail _ _).trans (Sel.tail _ _)), ?_⟩
  refine Wph.one 12 (by kernel_rfl) rfl rfl ?_
  repeat' (first | (apply Wpl.callP; exact rfl; exact rfl; exact rfl; exact rfl; (exact his); (exact HasF.nil)) | apply Wpl.nil | (apply Wpl.guard_run; exact rfl; exact rfl))
  refine ⟨fun _ h => h, ((Sel.tail _ _).trans (Sel.tail _ _)), ?_⟩
  (refine Wph.take 13 rfl (by kernel_rfl) rfl (fun _ _ _ _ h => h) (fun _ h => h) (by first | exact Sel.refl _ | exact Sel.tail _ _ | exact Sel.nil _ | exact (Sel.tail _ _).trans (Sel.tail _ _) | exact (Sel.tail _ _).trans ((Sel.tail _ _).trans (Sel.tail _ _))) ?_; (repeat' (first | apply Wpl.nil | (apply Wpl.guard_run; exact rfl; exact rfl) | (apply Wpl.unNot; exact rfl; exact rfl)))); (refine Wph.take 14 rfl (by kernel_rfl) rfl (fun _ _ _ _ h => h) (fun _ h => h) (by first | exact Sel.refl _ | exact Sel.tail _ _ | exact Sel.nil _ | exact (Sel.tail _ _).trans (Sel.tail _ _) | exact (Sel.tail _ _).trans ((Sel.tail _ _).trans (Sel.tail _ _))) ?_; (repeat' (first | apply Wpl.nil | (apply Wpl.pickF; exact rfl; exact rfl; (conv => lhs; whnf))))); skip
  refine Wph.done (by kernel_rfl) ?_
  repeat' (first | (apply Wpl.callP; exact rfl; exact rfl; exact rfl; exact rfl; (exact hwl); (refine HasF.cons (by (exact HasF.m 3 rfl)) HasF.nil)) | (apply Wpc.seqK; intro K hK) | apply Wpc.region | apply Wpl.nil | (apply hK; clear hK K) | (apply Wpl.mv; exact rfl; (conv => lhs; whnf)) | (apply Wpl.asg; exact rfl; (conv => lhs; whnf)) | (apply Wpl.guard_run; exact rfl; exact rfl) | (apply Wpl.guard_skip; exact rfl; exact rfl; exact rfl) | (apply Wpl.pickT; exact rfl; exact rfl; (conv => lhs; whnf)) | (apply Wpl.pickF; exact rfl; exact rfl; (conv => lhs; whnf)) | (apply Wpc.cond_false; exact rfl) | apply Wpc.skip | apply Wpc.ret | (apply Wpl.unNot; exact rfl; exact rfl) | (apply Wpl.gtr; exact rfl; exact rfl; exact rfl; all_goals (intro h; try (exfalso; omega))) | (apply Wpl.errEqNil; exact rfl; exact rfl) | (apply Wpl.boolNe; exact rfl; exact rfl; exact rfl; exact rfl))
  all_goals first | (exfalso; omega) | exact ⟨[_], [], ⟨rfl, trivial⟩, Sel.nil _, fun _ h => h, rfl, rfl⟩
theorem forms_big (h : 300 < ts.length ∨ 70000 < st.length) : PSpec Try.prog 3 [.agg #[vb, vt, .int .i64 k, .bool last], vs] [Ft, Fs] (.bool true) := by
  obtain ⟨p1, c1, rfl⟩ := ht.len
  obtain ⟨p2, c2, rfl⟩ := hs.len
  refine Ctr.intro Try.func3 (by kernel_rfl) rfl (by conv => lhs; whnf) rfl fun W => ?_
  apply Wpc.seqK; intro K hK
  apply Wpc.region
  refine Wpl.boxA rfl rfl (fun bx => ?_)
  repeat' (first | (apply Wpl.callP; exact rfl; exact rfl; exact rfl; exact rfl; (exact alive_spec); (exact HasF.nil)) | (apply Wpc.seqK; intro K hK) | apply Wpc.region | apply Wpl.nil | (apply hK; clear hK K) | (apply Wpl.mv; exact rfl; (conv => lhs; whnf)) | (apply Wpl.asg; exact rfl; (conv => lhs; whnf)) | (apply Wpl.guard_run; exact rfl; exact rfl) | (apply Wpl.guard_skip; exact rfl; exact rfl; exact rfl) | (apply Wpl.pickT; exact rfl; exact rfl; (conv => lhs; whnf)) | (apply Wpl.pickF; exact rfl; exact rfl; (conv => lhs; whnf)) | (apply Wpc.cond_true; exact rfl) | (apply Wpc.cond_false; exact rfl) | apply Wpc.skip | apply Wpc.ret | (apply Wpl.unNot; exact rfl; exact rfl) | (apply Wpl.fldS; exact rfl; exact rfl; exact rfl; exact rfl) | (apply Wpl.ld0x0; exact rfl; exact rfl; exact rfl; exact rfl) | (apply Wpl.gtr; exact rfl; exact rfl; exact rfl; all_goals (intro h; try (exfalso; omega))) | (apply Wpl.len; exact rfl; exact rfl))
  all_goals exact ⟨[_], [], ⟨rfl, trivial⟩, Sel.nil _, fun _ h => h, rfl, rfl⟩
theorem forms_spec : PSpec Try.prog 3 [.agg #[vb, vt, .int .i64 k, .bool last], vs] [Ft, Fs] (.bool true) := by
  by_cases hbig : 300 < ts.length ∨ 70000 < st.length
  · exact forms_big Ft Fs vb vt vs ts st k last ht hs h8 hbig
  by_cases hf : fits ts st
  · by_cases hc : checkOk k ts st
    · exact forms_ok Ft Fs vb vt vs ts st k last ht hs h8 hc (by omega) (by omega)
    · refine forms_fit Ft Fs vb vt vs ts st k last ht hs h8 hf ?_ (by omega) (by omega)
      by_cases hk : k < 0 ∨ k > 2 ∨ (k = 0 ∧ st.length > 65535)
      · exact hk
      · exact absurd ⟨by omega, hf, by omega⟩ hc
  · exact forms_bad Ft Fs vb vt vs ts st k last ht hs h8 hf (by omega) (by omega)
end
end Go.Proofs.Ytmfcgffdijnokaa
