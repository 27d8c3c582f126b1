/- contracts: fitting tokens, checks, code lengths, runs -/
import Derived.Test.YtmfcgffdijnokaaPe
set_option linter.unusedVariables false
set_option linter.unusedSimpArgs false
set_option linter.unusedSectionVars false
set_option maxRecDepth 100000
set_option maxHeartbeats 4000000
namespace Go.Proofs.Ytmfcgffdijnokaa
open Go.SL Go.RowKit
attribute [local irreducible] Wpl Wpc Wph
/-! block.sound and Fits -/
section
variable {q : Md} {C : Cx} {ops : Array Oper} {rest : List Oper} {Q : Exit → Env → List Frag → List Frag → Prop} {f : Env} {R M : List Frag}
variable {d : Nat} {ty T : TypeId} {pos : String} {af : Array Edge}
theorem Wpl.idxTokN {s i : Operand} {d2 : Nat} {E ty2 : TypeId} {pos2 : String} {af2 : Array Edge} {by_ : Nat} {z : Value} [hT : SliceT C.P T E] [hE : AggT C.P E 2 z by_] {F : Frag} {v : Value} {ki : IntKind} {m : Nat} {l : List (Int × Int)} {n : Nat}
    (hd : Nat.blt d C.n = true) (hd2 : Nat.blt d2 C.n = true) (hs : f.ev s = v) (hi : f.ev i = .int ki (m : Int)) (hrow : Row F 2 v n (flat tokC l)) (hF : HasF R M F) (h1 : m < l.length)
    (k1 : ∀ p (hm : m < l.length), Wpl q C ops rest Q ((f.upd d p).upd d2 (.agg (tokC (l[m]'hm)).toArray)) R M) :
    Wpl q C ops (⟨some d, .indexAddr T s i, ty, pos, af, none⟩ :: ⟨some d2, .load E (.tmp d), ty2, pos2, af2, none⟩ :: rest) Q f R M :=
  Wpl.idxAgg hd hd2 hs hi hrow tokC_len hF (by omega) (by omega) (by decide) (fun p _ => k1 p h1)
theorem Wpl.idxByteN {s i : Operand} {d2 : Nat} {E ty2 : TypeId} {pos2 : String} {af2 : Array Edge} {by_ : Nat} {z : Value} [hT : SliceT C.P T E] [hE : CellT C.P E z by_] {F : Frag} {v : Value} {ki : IntKind} {m : Nat} {l : List Int} {n : Nat}
    (hd : Nat.blt d C.n = true) (hd2 : Nat.blt d2 C.n = true) (hs : f.ev s = v) (hi : f.ev i = .int ki (m : Int)) (hrow : Row F 1 v n (ints .u8 l)) (h8 : bytes8 l) (hF : HasF R M F) (h1 : m < l.length)
    (k1 : ∀ p (hm : m < l.length), (0 ≤ l[m] ∧ l[m] ≤ 255) → Wpl q C ops rest Q ((f.upd d p).upd d2 (.int .u8 (l[m]'hm))) R M) :
    Wpl q C ops (⟨some d, .indexAddr T s i, ty, pos, af, none⟩ :: ⟨some d2, .load E (.tmp d), ty2, pos2, af2, none⟩ :: rest) Q f R M :=
  Wpl.idxN hd hd2 hs hi hrow hF h1 (fun p hm => k1 p hm (h8 _ (List.getElem_mem _)))
theorem Wpl.idxByte {s i : Operand} {d2 : Nat} {E ty2 : TypeId} {pos2 : String} {af2 : Array Edge} {by_ : Nat} {z : Value} [hT : SliceT C.P T E] [hE : CellT C.P E z by_] {F : Frag} {v : Value} {ki : IntKind} {m : Int} {l : List Int} {n : Nat}
    (hd : Nat.blt d C.n = true) (hd2 : Nat.blt d2 C.n = true) (hs : f.ev s = v) (hi : f.ev i = .int ki m) (hrow : Row F 1 v n (ints .u8 l)) (h8 : bytes8 l) (hF : HasF R M F) (h0 : 0 ≤ m) (h1 : m < l.length)
    (k1 : ∀ p (hm : m.toNat < l.length), (0 ≤ l[m.toNat] ∧ l[m.toNat] ≤ 255) → Wpl q C ops rest Q ((f.upd d p).upd d2 (.int .u8 (l[m.toNat]'hm))) R M) :
    Wpl q C ops (⟨some d, .indexAddr T s i, ty, pos, af, none⟩ :: ⟨some d2, .load E (.tmp d), ty2, pos2, af2, none⟩ :: rest) Q f R M :=
  Wpl.idx hd hd2 hs hi hrow hF h0 h1 (fun p hm => k1 p hm (h8 _ (List.getElem_mem _)))
theorem Wpl.idxByteA {s i : Operand} {d2 : Nat} {E ty2 : TypeId} {pos2 : String} {af2 : Array Edge} {g2 : Option (Nat × Bool)} {by_ : Nat} {z : Value} [hT : SliceT C.P T E] [hE : CellT C.P E z by_] {F : Frag} {v : Value} {ki : IntKind} {m : Int} {l : List Int} {n : Nat}
    (hd : Nat.blt d C.n = true) (hs : f.ev s = v) (hi : f.ev i = .int ki m) (hrow : Row F 1 v n (ints .u8 l)) (h8 : bytes8 l) (h0 : 0 ≤ m) (h1 : m < l.length)
    (k1 : ∀ p (hm : m.toNat < l.length), (0 ≤ l[m.toNat] ∧ l[m.toNat] ≤ 255) → Pts F p (.int .u8 (l[m.toNat]'hm)) → Wpl q C ops (⟨some d2, .load E (.tmp d), ty2, pos2, af2, g2⟩ :: rest) Q (f.upd d p) R M) :
    Wpl q C ops (⟨some d, .indexAddr T s i, ty, pos, af, none⟩ :: ⟨some d2, .load E (.tmp d), ty2, pos2, af2, g2⟩ :: rest) Q f R M :=
  Wpl.idxA hd hs hi hrow h0 h1 (fun p hm => k1 p hm (h8 _ (List.getElem_mem _)))
theorem Wpl.idxByteAN {s i : Operand} {d2 : Nat} {E ty2 : TypeId} {pos2 : String} {af2 : Array Edge} {g2 : Option (Nat × Bool)} {by_ : Nat} {z : Value} [hT : SliceT C.P T E] [hE : CellT C.P E z by_] {F : Frag} {v : Value} {ki : IntKind} {m : Nat} {l : List Int} {n : Nat}
    (hd : Nat.blt d C.n = true) (hs : f.ev s = v) (hi : f.ev i = .int ki (m : Int)) (hrow : Row F 1 v n (ints .u8 l)) (h8 : bytes8 l) (h1 : m < l.length)
    (k1 : ∀ p (hm : m < l.length), (0 ≤ l[m] ∧ l[m] ≤ 255) → Pts F p (.int .u8 (l[m]'hm)) → Wpl q C ops (⟨some d2, .load E (.tmp d), ty2, pos2, af2, g2⟩ :: rest) Q (f.upd d p) R M) :
    Wpl q C ops (⟨some d, .indexAddr T s i, ty, pos, af, none⟩ :: ⟨some d2, .load E (.tmp d), ty2, pos2, af2, g2⟩ :: rest) Q f R M :=
  Wpl.idxAN hd hs hi hrow h1 (fun p hm => k1 p hm (h8 _ (List.getElem_mem _)))
end
def tlen (t : Int × Int) : Nat := if t.1 = 0 then 1 else t.1.toNat
def okAt (st : List Int) (t : Int × Int) (k : Nat) : Prop :=
  (t.1 = 0 → st[k]?.getD 0 = t.2) ∧ (t.1 ≠ 0 → t.2 ≤ k → st[k]?.getD 0 = st[((k : Int) - t.2).toNat]?.getD 0)
def tokFits (st : List Int) (t : Int × Int) (at_ : Nat) : Prop :=
  goodTok t = true ∧ at_ + tlen t ≤ st.length ∧ ∀ k, at_ ≤ k → k < at_ + tlen t → okAt st t k
def fitsFrom (st : List Int) : List (Int × Int) → Nat → Prop
  | [], a => a = st.length
  | t :: ts, a => tokFits st t a ∧ fitsFrom st ts (a + tlen t)
def fits (ts : List (Int × Int)) (st : List Int) : Prop := fitsFrom st ts 0
noncomputable def fitsB (ts : List (Int × Int)) (st : List Int) : Bool := @decide (fits ts st) (Classical.propDecidable _)
theorem fitsB_true {ts : List (Int × Int)} {st : List Int} (h : fits ts st) : Value.bool true = Value.bool (fitsB ts st) := by simp [fitsB, h]
theorem fitsB_false {ts : List (Int × Int)} {st : List Int} (h : ¬ fits ts st) : Value.bool false = Value.bool (fitsB ts st) := by simp [fitsB, h]
theorem drop_step {α : Type} {l : List α} {k : Nat} (h : k < l.length) : l.drop k = l[k] :: l.drop (k + 1) := List.drop_eq_getElem_cons h
theorem good_lit {t : Int × Int} (h : t.1 = 0) : goodTok t = true ↔ (0 ≤ t.2 ∧ t.2 < 256) := by simp [goodTok, h]
theorem good_match {t : Int × Int} (h : t.1 ≠ 0) : goodTok t = true ↔ ((3 ≤ t.1 ∧ t.1 ≤ 258) ∧ 1 ≤ t.2 ∧ t.2 ≤ 32768) := by simp [goodTok, h]
theorem getD_get {st : List Int} {k : Nat} (h : k < st.length) : st[k]?.getD 0 = st[k] := by simp [h]
theorem sound_spec (Ft Fs : Frag) (vt vs : Value) (ts : List (Int × Int)) (st : List Int) (ht : Row Ft 2 vt ts.length (flat tokC ts)) (hs : Row Fs 1 vs st.length (ints .u8 st)) (h8 : bytes8 st)
    (hlt : ts.length ≤ 1000000000000) (hls : st.length ≤ 1000000000000) :
    PSpec Try.prog 42 [vt, vs] [Ft, Fs] (.bool (fitsB ts st)) := by
  obtain ⟨a1, c1, rfl⟩ := ht.len
  obtain ⟨a2, c2, rfl⟩ := hs.len
  refine Ctr.intro Try.func42 (by kernel_rfl) rfl (by conv => lhs; whnf) rfl fun W => ?_
  repeat' (first | (apply Wpc.seqK; intro K hK) | apply Wpc.region | apply Wpl.nil | (apply hK; clear hK K) | (apply Wpl.mv; exact rfl; (conv => lhs; whnf)) | (apply Wpl.asg; exact rfl; (conv => lhs; whnf)) | apply Wpc.block | (apply Wpl.len; exact rfl; exact rfl))
  refine Wpc.loop (ι := Nat × Nat) (fun i => i.1 ≤ ts.length ∧ i.2 ≤ st.length ∧ (fits ts st ↔ fitsFrom st (ts.drop i.1) i.2))
    (fun i => [(1, .slice a2 st.length c2), (5, .int .i64 i.2), (10, .slice a1 ts.length c1), (11, .int .i64 ts.length), (12, .int .i64 i.1)]) (fun _ => []) (fun i => ts.length - i.1) (0, 0)
    ⟨by omega, by omega, Iff.rfl⟩ ⟨rfl, rfl, rfl, rfl, rfl, trivial⟩ (Sel.refl _) ?_
  rintro ⟨k, at_⟩ g ⟨hk, hat, hiff⟩
  dsimp only at hk hat hiff ⊢
  repeat' (first | (apply Wpc.seqK; intro K hK) | apply Wpc.region | apply Wpl.nil | (apply hK; clear hK K) | (apply Wpl.mv; exact rfl; (conv => lhs; whnf)) | (apply Wpl.asg; exact rfl; (conv => lhs; whnf)) | (apply Wpc.cond_true; exact rfl) | (apply Wpc.cond_false; exact rfl) | apply Wpc.block | apply Wpc.skip | apply Wpc.exit | apply Wpc.ret | (apply Wpl.lss; exact rfl; exact rfl; exact rfl; all_goals (intro h; try (exfalso; omega))) | (apply Wpl.eql; exact rfl; exact rfl; exact rfl; all_goals (intro h; try (exfalso; omega))) | (apply Wpl.len; exact rfl; exact rfl) | ((conv => whnf); clear hK K; apply hK; clear hK K))
  · have hkl : k < ts.length := by omega
    rw [drop_step hkl] at hiff
    refine Wpl.idxTokN rfl rfl rfl rfl ht (by (exact HasF.r 0 rfl)) hkl (fun _ _ => ?_)
    generalize htk : ts[k] = t at *
    have hstep : fitsFrom st (t :: ts.drop (k + 1)) at_ ↔ tokFits st t at_ ∧ fitsFrom st (ts.drop (k + 1)) (at_ + tlen t) := Iff.rfl
    rw [hstep] at hiff
    by_cases h0 : t.1 = 0
    · have hg := good_lit h0
      have htl : tlen t = 1 := by simp [tlen, h0]
      have hmx : (at_ : Int) + max t.1 1 = ((at_ + tlen t : Nat) : Int) := by omega
      repeat' (first | (apply Wpc.region_draw; kernel_rfl; kernel_rfl) | (apply Wpl.idxByteN; exact rfl; exact rfl; exact rfl; exact rfl; assumption; assumption; (exact HasF.r 1 rfl); omega; intro _ _ _) | (apply Wpc.seqK; intro K hK) | apply Wpc.region | apply Wpl.nil | (apply hK; clear hK K) | (apply Wpl.mv; exact rfl; (conv => lhs; whnf)) | (apply Wpl.asg; exact rfl; (conv => lhs; whnf)) | (apply Wpc.cond_true; exact rfl) | (apply Wpc.cond_false; exact rfl) | apply Wpc.block | apply Wpc.skip | apply Wpc.ret | (apply Wpl.fldS; exact rfl; exact rfl; exact rfl; exact rfl) | (apply Wpl.ld0x0; exact rfl; exact rfl; exact rfl; exact rfl) | (apply Wpl.gtr; exact rfl; exact rfl; exact rfl; all_goals (intro h; try (exfalso; omega))) | (apply Wpl.eql; exact rfl; exact rfl; exact rfl; all_goals (intro h; try (exfalso; omega))) | (apply Wpl.neq; exact rfl; exact rfl; exact rfl; all_goals (intro h; try (exfalso; omega))) | (apply Wpl.sub; exact rfl; exact rfl; exact rfl; omega) | (apply Wpl.maxI; exact rfl; exact rfl; exact rfl) | (apply Wpl.new; exact rfl; intro _) | (apply Wpl.stAgg0; exact rfl; exact rfl; exact rfl; exact rfl; exact rfl; exact one_cons rfl (one_cons rfl one_nil); exact rfl) | (apply Wpl.len; exact rfl; exact rfl) | (apply Wpl.i64; exact rfl; exact rfl; omega))
      · refine ⟨[_], [], ⟨rfl, trivial⟩, Sel.nil _, fun _ h => h, fitsB_false (fun hf => ?_), rfl⟩
        obtain ⟨⟨hgood, hle, hall⟩, _⟩ := hiff.1 hf
        rw [htl] at hle hall
        have hg2 := hg.1 hgood
        omega
      · refine ⟨[_], [], ⟨rfl, trivial⟩, Sel.nil _, fun _ h => h, fitsB_false (fun hf => ?_), rfl⟩
        obtain ⟨⟨hgood, hle, hall⟩, _⟩ := hiff.1 hf
        rw [htl] at hle hall
        have hg2 := hg.1 hgood
        have hl : at_ < st.length := by omega
        have := (hall at_ (Nat.le_refl _) (by omega)).1 h0
        rw [getD_get hl] at this
        omega
      · have hl : at_ < st.length := by omega
        have hb8 := h8 st[at_] (List.getElem_mem _)
        have htf : tokFits st t at_ := ⟨hg.2 (by omega), by omega, fun j h1 h2 => ⟨fun _ => by
          have : j = at_ := by omega
          subst this
          rw [getD_get hl]; omega, fun h => absurd h0 h⟩⟩
        refine Wpc.loop (ι := Unit) (fun _ => True)
          (fun _ => [(1, .slice a2 st.length c2), (5, .int .i64 at_), (7, .pointer (some ⟨_, 0, none⟩)), (8, .int .i64 (max t.1 1)), (9, .int .i64 at_), (10, .slice a1 ts.length c1), (11, .int .i64 ts.length), (12, .int .i64 k)]) (fun _ => [[(_, .cells (tokC t).toArray 54 (0, 0))]]) (fun _ => 0) ()
          trivial ⟨rfl, rfl, rfl, rfl, rfl, rfl, rfl, rfl, trivial⟩ (Sel.refl _) ?_
        rintro _ g _
        repeat' (first | (apply Wpc.seqK; intro K hK) | apply Wpc.region | apply Wpl.nil | (apply hK; clear hK K) | (apply Wpl.mv; exact rfl; (conv => lhs; whnf)) | (apply Wpl.asg; exact rfl; (conv => lhs; whnf)) | (apply Wpl.guard_skip; exact rfl; exact rfl; exact rfl) | (apply Wpl.pickF; exact rfl; exact rfl; (conv => lhs; whnf)) | (apply Wpc.cond_false; exact rfl) | apply Wpc.exit | (apply Wpl.fldS; exact rfl; exact rfl; exact rfl; exact rfl) | (apply Wpl.ld0x0; exact rfl; exact rfl; exact rfl; exact rfl) | (apply Wpl.gtr; exact rfl; exact rfl; exact rfl; all_goals (intro h; try (exfalso; omega))) | (apply Wpl.add; exact rfl; exact rfl; exact rfl; omega) | ((conv => whnf); clear hK K; apply hK; clear hK K))
        exact ⟨(k + 1, at_ + tlen t), ⟨by omega, by omega, by rw [hiff]; exact ⟨fun h => h.2, fun h => ⟨htf, h⟩⟩⟩, by show ts.length - (k + 1) < ts.length - k; omega, ⟨rfl, congrArg (Value.int .i64) hmx, rfl, rfl, rfl, trivial⟩, Sel.nil _, fun _ h => h⟩
    · have hg := good_match h0
      have htl : tlen t = t.1.toNat := by simp [tlen, h0]
      repeat' (first | (apply Wpc.seqK; intro K hK) | apply Wpc.region | apply Wpl.nil | (apply hK; clear hK K) | (apply Wpl.mv; exact rfl; (conv => lhs; whnf)) | (apply Wpl.asg; exact rfl; (conv => lhs; whnf)) | (apply Wpl.guard_run; exact rfl; exact rfl) | (apply Wpl.guard_skip; exact rfl; exact rfl; exact rfl) | (apply Wpl.pickT; exact rfl; exact rfl; (conv => lhs; whnf)) | (apply Wpl.pickF; exact rfl; exact rfl; (conv => lhs; whnf)) | (apply Wpc.cond_true; exact rfl) | (apply Wpc.cond_false; exact rfl) | apply Wpc.block | apply Wpc.skip | apply Wpc.ret | (apply Wpl.fldS; exact rfl; exact rfl; exact rfl; exact rfl) | (apply Wpl.ld0x0; exact rfl; exact rfl; exact rfl; exact rfl) | (apply Wpl.lss; exact rfl; exact rfl; exact rfl; all_goals (intro h; try (exfalso; omega))) | (apply Wpl.gtr; exact rfl; exact rfl; exact rfl; all_goals (intro h; try (exfalso; omega))) | (apply Wpl.eql; exact rfl; exact rfl; exact rfl; all_goals (intro h; try (exfalso; omega))) | (apply Wpl.sub; exact rfl; exact rfl; exact rfl; omega) | (apply Wpl.maxI; exact rfl; exact rfl; exact rfl) | (apply Wpl.new; exact rfl; intro _) | (apply Wpl.stAgg0; exact rfl; exact rfl; exact rfl; exact rfl; exact rfl; exact one_cons rfl (one_cons rfl one_nil); exact rfl) | (apply Wpl.len; exact rfl; exact rfl))
      · refine ⟨[_], [], ⟨rfl, trivial⟩, Sel.nil _, fun _ h => h, fitsB_false (fun hf => ?_), rfl⟩
        obtain ⟨⟨hgood, hle, hall⟩, _⟩ := hiff.1 hf
        rw [htl] at hle hall
        have hg2 := hg.1 hgood
        omega
      · refine ⟨[_], [], ⟨rfl, trivial⟩, Sel.nil _, fun _ h => h, fitsB_false (fun hf => ?_), rfl⟩
        obtain ⟨⟨hgood, hle, hall⟩, _⟩ := hiff.1 hf
        rw [htl] at hle hall
        have hg2 := hg.1 hgood
        omega
      · refine ⟨[_], [], ⟨rfl, trivial⟩, Sel.nil _, fun _ h => h, fitsB_false (fun hf => ?_), rfl⟩
        obtain ⟨⟨hgood, hle, hall⟩, _⟩ := hiff.1 hf
        rw [htl] at hle hall
        have hg2 := hg.1 hgood
        omega
      · refine ⟨[_], [], ⟨rfl, trivial⟩, Sel.nil _, fun _ h => h, fitsB_false (fun hf => ?_), rfl⟩
        obtain ⟨⟨hgood, hle, hall⟩, _⟩ := hiff.1 hf
        rw [htl] at hle hall
        have hg2 := hg.1 hgood
        omega
      · refine ⟨[_], [], ⟨rfl, trivial⟩, Sel.nil _, fun _ h => h, fitsB_false (fun hf => ?_), rfl⟩
        obtain ⟨⟨hgood, hle, hall⟩, _⟩ := hiff.1 hf
        rw [htl] at hle hall
        have hg2 := hg.1 hgood
        omega
      · have hmx : (at_ : Int) + max t.1 1 = ((at_ + tlen t : Nat) : Int) := by omega
        refine Wpc.loop (ι := Nat) (fun j => at_ ≤ j ∧ j ≤ at_ + t.1.toNat ∧ ∀ i, at_ ≤ i → i < j → okAt st t i)
          (fun j => [(1, .slice a2 st.length c2), (5, .int .i64 at_), (7, .pointer (some ⟨_, 0, none⟩)), (8, .int .i64 (max t.1 1)), (9, .int .i64 j), (10, .slice a1 ts.length c1), (11, .int .i64 ts.length), (12, .int .i64 k)]) (fun _ => [[(_, .cells (tokC t).toArray 54 (0, 0))]]) (fun j => at_ + t.1.toNat - j) at_
          ⟨Nat.le_refl _, by omega, fun i h1 h2 => by omega⟩ ⟨rfl, rfl, rfl, rfl, rfl, rfl, rfl, rfl, trivial⟩ (Sel.refl _) ?_
        rintro j g ⟨hj1, hj2, hj3⟩
        repeat' (first | (apply Wpc.region_draw; kernel_rfl; kernel_rfl) | (apply Wpl.idxByteAN; exact rfl; exact rfl; exact rfl; assumption; assumption; omega; intro _ _ _ _) | (apply Wpl.idxByteA; exact rfl; exact rfl; exact rfl; assumption; assumption; omega; omega; intro _ _ _ _) | (apply Wpc.seqK; intro K hK) | apply Wpc.region | apply Wpl.nil | (apply hK; clear hK K) | (apply Wpl.mv; exact rfl; (conv => lhs; whnf)) | (apply Wpl.asg; exact rfl; (conv => lhs; whnf)) | (apply Wpl.guard_run; exact rfl; exact rfl) | (apply Wpl.guard_skip; exact rfl; exact rfl; exact rfl) | (apply Wpl.pickT; exact rfl; exact rfl; (conv => lhs; whnf)) | (apply Wpl.pickF; exact rfl; exact rfl; (conv => lhs; whnf)) | (apply Wpc.cond_true; exact rfl) | (apply Wpc.cond_false; exact rfl) | apply Wpc.block | apply Wpc.skip | apply Wpc.exit | apply Wpc.ret | (apply Wpl.fldS; exact rfl; exact rfl; exact rfl; exact rfl) | (apply Wpl.ld0x0; exact rfl; exact rfl; exact rfl; exact rfl) | (apply Wpl.lss; exact rfl; exact rfl; exact rfl; all_goals (intro h; try (exfalso; omega))) | (apply Wpl.gtr; exact rfl; exact rfl; exact rfl; all_goals (intro h; try (exfalso; omega))) | (apply Wpl.geq; exact rfl; exact rfl; exact rfl; all_goals (intro h; try (exfalso; omega))) | (apply Wpl.neq; exact rfl; exact rfl; exact rfl; all_goals (intro h; try (exfalso; omega))) | (apply Wpl.add; exact rfl; exact rfl; exact rfl; omega) | (apply Wpl.sub; exact rfl; exact rfl; exact rfl; omega) | (apply Wpl.ldP; exact rfl; exact rfl; assumption; (exact HasF.r 1 rfl)) | ((conv => whnf); clear hK K; apply hK; clear hK K))
        · refine ⟨[_], [], ⟨rfl, trivial⟩, Sel.nil _, fun _ h => h, fitsB_false (fun hf => ?_), rfl⟩
          obtain ⟨⟨hgood, hle, hall⟩, _⟩ := hiff.1 hf
          rw [htl] at hle hall
          have h3 := (hall j hj1 (by omega)).2 h0 (by omega)
          rw [getD_get (by omega), getD_get (by omega)] at h3
          contradiction
        · have hok : okAt st t j := ⟨fun h => absurd h h0, fun _ _ => by rw [getD_get (by omega), getD_get (by omega)]; assumption⟩
          exact ⟨j + 1, ⟨by omega, by omega, fun i h1 h2 => by
            rcases (show i < j ∨ i = j by omega) with h | rfl
            · exact hj3 i h1 h
            · exact hok⟩, by omega, ⟨rfl, rfl, rfl, rfl, rfl, rfl, rfl, rfl, trivial⟩, Sel.refl _, fun _ h => h⟩
        · have hok : okAt st t j := ⟨fun h => absurd h h0, fun _ h => by omega⟩
          exact ⟨j + 1, ⟨by omega, by omega, fun i h1 h2 => by
            rcases (show i < j ∨ i = j by omega) with h | rfl
            · exact hj3 i h1 h
            · exact hok⟩, by omega, ⟨rfl, rfl, rfl, rfl, rfl, rfl, rfl, rfl, trivial⟩, Sel.refl _, fun _ h => h⟩
        · have htf : tokFits st t at_ := ⟨hg.2 (by omega), by omega, fun i h1 h2 => hj3 i h1 (by omega)⟩
          exact ⟨(k + 1, at_ + tlen t), ⟨by omega, by omega, by rw [hiff]; exact ⟨fun h => h.2, fun h => ⟨htf, h⟩⟩⟩, by show ts.length - (k + 1) < ts.length - k; omega, ⟨rfl, congrArg (Value.int .i64) hmx, rfl, rfl, rfl, trivial⟩, Sel.nil _, fun _ h => h⟩
  · have : k = ts.length := by omega
    subst this
    rw [List.drop_length] at hiff
    exact ⟨[_], [], ⟨rfl, trivial⟩, Sel.nil _, fun _ h => h, fitsB_true (hiff.2 (by show at_ = st.length; omega)), rfl⟩
  · have : k = ts.length := by omega
    subst this
    rw [List.drop_length] at hiff
    exact ⟨[_], [], ⟨rfl, trivial⟩, Sel.nil _, fun _ h => h, fitsB_false (fun hf => by have h : at_ = st.length := hiff.1 hf; omega), rfl⟩

theorem fits_spec (Ft Fs : Frag) (vt vs : Value) (ts : List (Int × Int)) (st : List Int) (ht : Row Ft 2 vt ts.length (flat tokC ts)) (hs : Row Fs 1 vs st.length (ints .u8 st)) (h8 : bytes8 st)
    (hlt : ts.length ≤ 1000000000000) (hls : st.length ≤ 1000000000000) :
    PSpec Try.prog 9 [vt, vs] [Ft, Fs] (.bool (fitsB ts st)) := by
  obtain ⟨a1, c1, rfl⟩ := ht.len
  obtain ⟨a2, c2, rfl⟩ := hs.len
  refine Ctr.intro Try.func9 (by kernel_rfl) rfl (by conv => lhs; whnf) rfl fun W => ?_
  repeat' (first | (apply Wpc.seqK; intro K hK) | apply Wpc.region | apply Wpl.nil | (apply hK; clear hK K) | (apply Wpl.asg; exact rfl; (conv => lhs; whnf)) | apply Wpc.block)
  refine Wpc.loop (ι := Nat × Nat) (fun i => i.1 ≤ ts.length ∧ i.2 ≤ st.length ∧ (fits ts st ↔ fitsFrom st (ts.drop i.1) i.2))
    (fun i => [(0, .slice a1 ts.length c1), (1, .slice a2 st.length c2), (5, .int .i64 i.2), (6, .int .i64 i.1)]) (fun _ => []) (fun i => ts.length - i.1) (0, 0)
    ⟨by omega, by omega, Iff.rfl⟩ ⟨rfl, rfl, rfl, rfl, trivial⟩ (Sel.refl _) ?_
  rintro ⟨k, at_⟩ g ⟨hk, hat, hiff⟩
  dsimp only at hk hat hiff ⊢
  repeat' (first | (apply Wpc.seqK; intro K hK) | apply Wpc.region | apply Wpl.nil | (apply hK; clear hK K) | (apply Wpl.mv; exact rfl; (conv => lhs; whnf)) | (apply Wpl.asg; exact rfl; (conv => lhs; whnf)) | (apply Wpc.cond_true; exact rfl) | (apply Wpc.cond_false; exact rfl) | apply Wpc.block | apply Wpc.skip | apply Wpc.exit | apply Wpc.ret | (apply Wpl.lss; exact rfl; exact rfl; exact rfl; all_goals (intro h; try (exfalso; omega))) | (apply Wpl.eql; exact rfl; exact rfl; exact rfl; all_goals (intro h; try (exfalso; omega))) | (apply Wpl.len; exact rfl; exact rfl) | ((conv => whnf); clear hK K; apply hK; clear hK K))
  · have hkl : k < ts.length := by omega
    rw [drop_step hkl] at hiff
    refine Wpl.idxTokN rfl rfl rfl rfl ht (by (exact HasF.r 0 rfl)) hkl (fun _ _ => ?_)
    generalize htk : ts[k] = t at *
    have hstep : fitsFrom st (t :: ts.drop (k + 1)) at_ ↔ tokFits st t at_ ∧ fitsFrom st (ts.drop (k + 1)) (at_ + tlen t) := Iff.rfl
    rw [hstep] at hiff
    have hgs := good_spec t
    by_cases hgt : goodTok t = true
    · rw [hgt] at hgs
      by_cases h0 : t.1 = 0
      · have hg := (good_lit h0).1 hgt
        have htl : tlen t = 1 := by simp [tlen, h0]
        repeat' (first | (refine Wpl.ldAgg 0 0 rfl rfl rfl rfl rfl ?_) | (apply Wpl.callP; exact rfl; exact rfl; exact rfl; exact rfl; (exact hgs); (exact HasF.nil)) | (apply Wpc.seqK; intro K hK) | apply Wpc.region | apply Wpl.nil | (apply hK; clear hK K) | (apply Wpl.mv; exact rfl; (conv => lhs; whnf)) | (apply Wpl.asg; exact rfl; (conv => lhs; whnf)) | (apply Wpc.cond_true; exact rfl) | (apply Wpc.cond_false; exact rfl) | apply Wpc.block | apply Wpc.skip | apply Wpc.ret | (apply Wpl.unNot; exact rfl; exact rfl) | (apply Wpl.fldS; exact rfl; exact rfl; exact rfl; exact rfl) | (apply Wpl.ld0x0; exact rfl; exact rfl; exact rfl; exact rfl) | (apply Wpl.gtr; exact rfl; exact rfl; exact rfl; all_goals (intro h; try (exfalso; omega))) | (apply Wpl.eql; exact rfl; exact rfl; exact rfl; all_goals (intro h; try (exfalso; omega))) | (apply Wpl.add; exact rfl; exact rfl; exact rfl; omega) | (apply Wpl.new; exact rfl; intro _) | (apply Wpl.stAgg0; exact rfl; exact rfl; exact rfl; exact rfl; exact rfl; exact one_cons rfl (one_cons rfl one_nil); exact rfl) | (apply Wpl.len; exact rfl; exact rfl))
        · refine ⟨[_], [], ⟨rfl, trivial⟩, Sel.nil _, fun _ h => h, fitsB_false (fun hf => ?_), rfl⟩
          obtain ⟨⟨hgood, hle, hall⟩, _⟩ := hiff.1 hf
          rw [htl] at hle hall
          omega
        have hmx : (at_ : Int) + 1 = ((at_ + tlen t : Nat) : Int) := by omega
        have hl : at_ < st.length := by omega
        refine Wpc.loop (ι := Nat) (fun j => at_ ≤ j ∧ j ≤ at_ + 1 ∧ (j = at_ + 1 → st[at_] = t.2))
          (fun j => [(0, .slice a1 ts.length c1), (1, .slice a2 st.length c2), (5, .int .i64 at_), (6, .int .i64 k), (7, .pointer (some ⟨_, 0, none⟩)), (8, .int .i64 1), (9, .int .i64 j)]) (fun _ => [[(_, .cells (tokC t).toArray 54 (0, 0))]]) (fun j => at_ + 1 - j) at_
          ⟨Nat.le_refl _, by omega, fun h => by omega⟩ ⟨rfl, rfl, rfl, rfl, rfl, rfl, rfl, trivial⟩ (Sel.refl _) ?_
        rintro j g ⟨hj1, hj2, hj3⟩
        repeat' (first | (apply Wpc.region_draw; kernel_rfl; kernel_rfl) | (apply Wpl.idxByteAN; exact rfl; exact rfl; exact rfl; assumption; assumption; omega; intro _ _ _ _) | (apply Wpc.seqK; intro K hK) | apply Wpc.region | apply Wpl.nil | (apply hK; clear hK K) | (apply Wpl.mv; exact rfl; (conv => lhs; whnf)) | (apply Wpl.asg; exact rfl; (conv => lhs; whnf)) | (apply Wpl.guard_run; exact rfl; exact rfl) | (apply Wpl.guard_skip; exact rfl; exact rfl; exact rfl) | (apply Wpl.pickT; exact rfl; exact rfl; (conv => lhs; whnf)) | (apply Wpl.pickF; exact rfl; exact rfl; (conv => lhs; whnf)) | (apply Wpc.cond_true; exact rfl) | (apply Wpc.cond_false; exact rfl) | apply Wpc.block | apply Wpc.skip | apply Wpc.exit | apply Wpc.ret | (apply Wpl.fldS; exact rfl; exact rfl; exact rfl; exact rfl) | (apply Wpl.ld0x0; exact rfl; exact rfl; exact rfl; exact rfl) | (apply Wpl.lss; exact rfl; exact rfl; exact rfl; all_goals (intro h; try (exfalso; omega))) | (apply Wpl.gtr; exact rfl; exact rfl; exact rfl; all_goals (intro h; try (exfalso; omega))) | (apply Wpl.eql; exact rfl; exact rfl; exact rfl; all_goals (intro h; try (exfalso; omega))) | (apply Wpl.neq; exact rfl; exact rfl; exact rfl; all_goals (intro h; try (exfalso; omega))) | (apply Wpl.add; exact rfl; exact rfl; exact rfl; omega) | (apply Wpl.i64; exact rfl; exact rfl; omega) | (apply Wpl.ldP; exact rfl; exact rfl; assumption; (exact HasF.r 1 rfl)) | ((conv => whnf); clear hK K; apply hK; clear hK K))
        · have hj : j = at_ := by omega
          subst hj
          refine ⟨[_], [], ⟨rfl, trivial⟩, Sel.nil _, fun _ h => h, fitsB_false (fun hf => ?_), rfl⟩
          obtain ⟨⟨hgood, hle, hall⟩, _⟩ := hiff.1 hf
          rw [htl] at hle hall
          have h3 := (hall j (Nat.le_refl _) (by omega)).1 h0
          rw [getD_get hl] at h3
          omega
        · have hj : j = at_ := by omega
          subst hj
          exact ⟨j + 1, ⟨by omega, by omega, fun _ => by omega⟩, by omega, ⟨rfl, rfl, rfl, rfl, rfl, rfl, rfl, trivial⟩, Sel.refl _, fun _ h => h⟩
        · have hj := hj3 (by omega)
          have htf : tokFits st t at_ := ⟨hgt, by omega, fun i h1 h2 => ⟨fun _ => by
            have : i = at_ := by omega
            subst this
            rw [getD_get hl]; omega, fun h => absurd h0 h⟩⟩
          exact ⟨(k + 1, at_ + tlen t), ⟨by omega, by omega, by rw [hiff]; exact ⟨fun h => h.2, fun h => ⟨htf, h⟩⟩⟩, by show ts.length - (k + 1) < ts.length - k; omega, ⟨rfl, rfl, congrArg (Value.int .i64) hmx, rfl, trivial⟩, Sel.nil _, fun _ h => h⟩
      · have hg := (good_match h0).1 hgt
        have htl : tlen t = t.1.toNat := by simp [tlen, h0]
        repeat' (first | (refine Wpl.ldAgg 0 0 rfl rfl rfl rfl rfl ?_) | (apply Wpl.callP; exact rfl; exact rfl; exact rfl; exact rfl; (exact hgs); (exact HasF.nil)) | (apply Wpc.seqK; intro K hK) | apply Wpc.region | apply Wpl.nil | (apply hK; clear hK K) | (apply Wpl.mv; exact rfl; (conv => lhs; whnf)) | (apply Wpl.asg; exact rfl; (conv => lhs; whnf)) | (apply Wpc.cond_true; exact rfl) | (apply Wpc.cond_false; exact rfl) | apply Wpc.block | apply Wpc.skip | apply Wpc.ret | (apply Wpl.unNot; exact rfl; exact rfl) | (apply Wpl.fldS; exact rfl; exact rfl; exact rfl; exact rfl) | (apply Wpl.ld0x0; exact rfl; exact rfl; exact rfl; exact rfl) | (apply Wpl.gtr; exact rfl; exact rfl; exact rfl; all_goals (intro h; try (exfalso; omega))) | (apply Wpl.eql; exact rfl; exact rfl; exact rfl; all_goals (intro h; try (exfalso; omega))) | (apply Wpl.add; exact rfl; exact rfl; exact rfl; omega) | (apply Wpl.new; exact rfl; intro _) | (apply Wpl.stAgg0; exact rfl; exact rfl; exact rfl; exact rfl; exact rfl; exact one_cons rfl (one_cons rfl one_nil); exact rfl) | (apply Wpl.len; exact rfl; exact rfl))
        · refine ⟨[_], [], ⟨rfl, trivial⟩, Sel.nil _, fun _ h => h, fitsB_false (fun hf => ?_), rfl⟩
          obtain ⟨⟨hgood, hle, hall⟩, _⟩ := hiff.1 hf
          rw [htl] at hle hall
          omega
        have hmx : (at_ : Int) + t.1 = ((at_ + tlen t : Nat) : Int) := by omega
        refine Wpc.loop (ι := Nat) (fun j => at_ ≤ j ∧ j ≤ at_ + t.1.toNat ∧ ∀ i, at_ ≤ i → i < j → okAt st t i)
          (fun j => [(0, .slice a1 ts.length c1), (1, .slice a2 st.length c2), (5, .int .i64 at_), (6, .int .i64 k), (7, .pointer (some ⟨_, 0, none⟩)), (8, .int .i64 t.1), (9, .int .i64 j)]) (fun _ => [[(_, .cells (tokC t).toArray 54 (0, 0))]]) (fun j => at_ + t.1.toNat - j) at_
          ⟨Nat.le_refl _, by omega, fun i h1 h2 => by omega⟩ ⟨rfl, rfl, rfl, rfl, rfl, rfl, rfl, trivial⟩ (Sel.refl _) ?_
        rintro j g ⟨hj1, hj2, hj3⟩
        repeat' (first | (apply Wpc.region_draw; kernel_rfl; kernel_rfl) | (apply Wpl.idxByteAN; exact rfl; exact rfl; exact rfl; assumption; assumption; omega; intro _ _ _ _) | (apply Wpl.idxByteA; exact rfl; exact rfl; exact rfl; assumption; assumption; omega; omega; intro _ _ _ _) | (apply Wpc.seqK; intro K hK) | apply Wpc.region | apply Wpl.nil | (apply hK; clear hK K) | (apply Wpl.mv; exact rfl; (conv => lhs; whnf)) | (apply Wpl.asg; exact rfl; (conv => lhs; whnf)) | (apply Wpl.guard_run; exact rfl; exact rfl) | (apply Wpl.guard_skip; exact rfl; exact rfl; exact rfl) | (apply Wpl.pickT; exact rfl; exact rfl; (conv => lhs; whnf)) | (apply Wpl.pickF; exact rfl; exact rfl; (conv => lhs; whnf)) | (apply Wpc.cond_true; exact rfl) | (apply Wpc.cond_false; exact rfl) | apply Wpc.block | apply Wpc.skip | apply Wpc.exit | apply Wpc.ret | (apply Wpl.fldS; exact rfl; exact rfl; exact rfl; exact rfl) | (apply Wpl.ld0x0; exact rfl; exact rfl; exact rfl; exact rfl) | (apply Wpl.lss; exact rfl; exact rfl; exact rfl; all_goals (intro h; try (exfalso; omega))) | (apply Wpl.gtr; exact rfl; exact rfl; exact rfl; all_goals (intro h; try (exfalso; omega))) | (apply Wpl.geq; exact rfl; exact rfl; exact rfl; all_goals (intro h; try (exfalso; omega))) | (apply Wpl.eql; exact rfl; exact rfl; exact rfl; all_goals (intro h; try (exfalso; omega))) | (apply Wpl.neq; exact rfl; exact rfl; exact rfl; all_goals (intro h; try (exfalso; omega))) | (apply Wpl.add; exact rfl; exact rfl; exact rfl; omega) | (apply Wpl.sub; exact rfl; exact rfl; exact rfl; omega) | (apply Wpl.ldP; exact rfl; exact rfl; assumption; (exact HasF.r 1 rfl)) | ((conv => whnf); clear hK K; apply hK; clear hK K))
        · refine ⟨[_], [], ⟨rfl, trivial⟩, Sel.nil _, fun _ h => h, fitsB_false (fun hf => ?_), rfl⟩
          obtain ⟨⟨hgood, hle, hall⟩, _⟩ := hiff.1 hf
          rw [htl] at hle hall
          have h3 := (hall j hj1 (by omega)).2 h0 (by omega)
          rw [getD_get (by omega), getD_get (by omega)] at h3
          contradiction
        · have hok : okAt st t j := ⟨fun h => absurd h h0, fun _ _ => by rw [getD_get (by omega), getD_get (by omega)]; assumption⟩
          exact ⟨j + 1, ⟨by omega, by omega, fun i h1 h2 => by
            rcases (show i < j ∨ i = j by omega) with h | rfl
            · exact hj3 i h1 h
            · exact hok⟩, by omega, ⟨rfl, rfl, rfl, rfl, rfl, rfl, rfl, trivial⟩, Sel.refl _, fun _ h => h⟩
        · have hok : okAt st t j := ⟨fun h => absurd h h0, fun _ h => by omega⟩
          exact ⟨j + 1, ⟨by omega, by omega, fun i h1 h2 => by
            rcases (show i < j ∨ i = j by omega) with h | rfl
            · exact hj3 i h1 h
            · exact hok⟩, by omega, ⟨rfl, rfl, rfl, rfl, rfl, rfl, rfl, trivial⟩, Sel.refl _, fun _ h => h⟩
        · have htf : tokFits st t at_ := ⟨hgt, by omega, fun i h1 h2 => hj3 i h1 (by omega)⟩
          exact ⟨(k + 1, at_ + tlen t), ⟨by omega, by omega, by rw [hiff]; exact ⟨fun h => h.2, fun h => ⟨htf, h⟩⟩⟩, by show ts.length - (k + 1) < ts.length - k; omega, ⟨rfl, rfl, congrArg (Value.int .i64) hmx, rfl, trivial⟩, Sel.nil _, fun _ h => h⟩
    · rw [Bool.not_eq_true] at hgt
      rw [hgt] at hgs
      repeat' (first | (refine Wpl.ldAgg 0 0 rfl rfl rfl rfl rfl ?_) | (apply Wpl.callP; exact rfl; exact rfl; exact rfl; exact rfl; (exact hgs); (exact HasF.nil)) | (apply Wpc.seqK; intro K hK) | apply Wpc.region | apply Wpl.nil | (apply hK; clear hK K) | (apply Wpl.asg; exact rfl; (conv => lhs; whnf)) | (apply Wpc.cond_true; exact rfl) | apply Wpc.ret | (apply Wpl.unNot; exact rfl; exact rfl) | (apply Wpl.new; exact rfl; intro _) | (apply Wpl.stAgg0; exact rfl; exact rfl; exact rfl; exact rfl; exact rfl; exact one_cons rfl (one_cons rfl one_nil); exact rfl))
      exact ⟨[_], [], ⟨rfl, trivial⟩, Sel.nil _, fun _ h => h, fitsB_false (fun hf => by have := (hiff.1 hf).1.1; rw [hgt] at this; cases this), rfl⟩
  · have : k = ts.length := by omega
    subst this
    rw [List.drop_length] at hiff
    exact ⟨[_], [], ⟨rfl, trivial⟩, Sel.nil _, fun _ h => h, fitsB_true (hiff.2 (by show at_ = st.length; omega)), rfl⟩
  · have : k = ts.length := by omega
    subst this
    rw [List.drop_length] at hiff
    exact ⟨[_], [], ⟨rfl, trivial⟩, Sel.nil _, fun _ h => h, fitsB_false (fun hf => by have h : at_ = st.length := hiff.1 hf; omega), rfl⟩
end Go.Proofs.Ytmfcgffdijnokaa
set_option maxRecDepth 100000
set_option maxHeartbeats 4000000
namespace Go.Proofs.Ytmfcgffdijnokaa
open Go.SL Go.RowKit
attribute [local irreducible] Wpl Wpc Wph
/-! canon.Free -/
def leftAfter (l : List Int) : Int := l.foldl (fun a n => if n > 0 then a - 65536 / 2 ^ n.toNat else a) 65536
theorem leftAfter_snoc (l : List Int) (x : Int) : leftAfter (l ++ [x]) = if x > 0 then leftAfter l - 65536 / 2 ^ x.toNat else leftAfter l := by simp [leftAfter]
theorem p2_bd (n : Nat) : 0 ≤ (65536 : Int) / 2 ^ n ∧ (65536 : Int) / 2 ^ n ≤ 65536 := by
  have hp : (0 : Int) < 2 ^ n := Int.pow_pos (by decide)
  exact ⟨Int.ediv_nonneg (by decide) (by omega), Int.ediv_le_self _ (by decide)⟩
theorem leftAfter_bd (l : List Int) : leftAfter l ≤ 65536 ∧ 65536 - 65536 * l.length ≤ leftAfter l := by
  obtain ⟨n, hn⟩ : ∃ n, n = l.length := ⟨_, rfl⟩
  induction n generalizing l with
  | zero => have : l = [] := List.eq_nil_of_length_eq_zero hn.symm; subst this; simp [leftAfter]
  | succ n ih =>
    have hne : l ≠ [] := fun e => by subst e; simp at hn
    have e := List.dropLast_concat_getLast hne
    have hl : l.dropLast.length = n := by simp; omega
    have ih' := ih l.dropLast hl.symm
    rw [← e, leftAfter_snoc, List.length_append, hl]
    rw [hl] at ih'
    have := p2_bd (l.getLast hne).toNat
    split <;> simp <;> omega
def badV : Value := .tuple #[.int .i64 0, .iface 40 (.int .i64 6)]
def freeV (l : List Int) : Value :=
  if l.length > 512 ∨ (∃ x ∈ l, x < 0 ∨ x > 16) ∨ leftAfter l < 0 then badV else .tuple #[.int .i64 (leftAfter l), .nilIface]
theorem freeV_bad {l : List Int} (k : Nat) (h : k < l.length) (hx : l[k] < 0 ∨ 16 < l[k]) : badV = freeV l := by
  rw [freeV, if_pos (.inr (.inl ⟨l[k], List.getElem_mem h, hx⟩))]
theorem freeV_end {l : List Int} (k : Nat) (hk : k ≤ l.length) (h : l.length ≤ k) (h1 : l.length ≤ 512) (hx : ∀ x ∈ l.take k, 0 ≤ x ∧ x ≤ 16) :
    (leftAfter (l.take k) < 0 → badV = freeV l) ∧ (0 ≤ leftAfter (l.take k) → Value.tuple #[.int .i64 (leftAfter (l.take k)), .nilIface] = freeV l) := by
  have e : l.take k = l := List.take_of_length_le h
  have hx' : ∀ x ∈ l, 0 ≤ x ∧ x ≤ 16 := by rw [e] at hx; exact hx
  rw [e]
  refine ⟨fun hn => by rw [freeV, if_pos (.inr (.inr hn))], fun hn => ?_⟩
  rw [freeV, if_neg]
  rintro (h2 | ⟨x, hm, hb⟩ | h2)
  · omega
  · have := hx' x hm; omega
  · omega
theorem all_snoc {l : List Int} {k : Nat} (h : k < l.length) (hx : ∀ x ∈ l.take k, 0 ≤ x ∧ x ≤ 16) (h1 : 0 ≤ l[k]) (h2 : l[k] ≤ 16) : ∀ x ∈ l.take (k + 1), 0 ≤ x ∧ x ≤ 16 := by
  rw [take_snoc l k h]
  intro x hm
  rcases List.mem_append.1 hm with hm | hm
  · exact hx x hm
  · rw [List.mem_singleton.1 hm]; exact ⟨h1, h2⟩

theorem free_spec (F : Frag) (v : Value) (l : List Int) (hv : Row F 1 v l.length (ints .i64 l)) : PSpec Try.prog 162 [v] [F] (freeV l) := by
  obtain ⟨a, cap, rfl⟩ := hv.len
  refine Ctr.intro Try.func162 (by kernel_rfl) rfl (by conv => lhs; whnf) rfl fun W => ?_
  repeat' (first | (apply Wpc.seqK; intro K hK) | apply Wpc.region | apply Wpl.nil | (apply hK; clear hK K) | (apply Wpl.mv; exact rfl; (conv => lhs; whnf)) | (apply Wpl.asg; exact rfl; (conv => lhs; whnf)) | (apply Wpc.cond_true; exact rfl) | (apply Wpc.cond_false; exact rfl) | apply Wpc.block | apply Wpc.skip | apply Wpc.ret | (apply Wpl.gtr; exact rfl; exact rfl; exact rfl; all_goals (intro h; try (exfalso; omega))) | (apply Wpl.len; exact rfl; exact rfl) | (apply Wpl.iface; exact rfl; (conv => lhs; whnf)))
  · exact ⟨[.int .i64 0, .iface 40 (.int .i64 6)], [], ⟨rfl, rfl, trivial⟩, Sel.nil _, fun _ h => h, by rw [freeV, if_pos (.inl (by omega))]; rfl, rfl⟩
  · refine Wpc.loop (fun k : Nat => k ≤ l.length ∧ ∀ x ∈ l.take k, 0 ≤ x ∧ x ≤ 16) (fun k => [(0, .slice a l.length cap), (4, .int .i64 (leftAfter (l.take k))), (11, .slice a l.length cap), (12, .int .i64 l.length), (13, .int .i64 k)]) (fun _ => []) (fun k => l.length - k) 0 ⟨by omega, by simp⟩ ⟨rfl, rfl, rfl, rfl, rfl, trivial⟩ (Sel.refl _) ?_
    rintro k g ⟨hk, hx⟩
    have hb := leftAfter_bd (l.take k)
    have hl : (l.take k).length = k := by simp; omega
    rw [hl] at hb
    repeat' (first | (apply Wpc.seqK; intro K hK) | apply Wpc.region | apply Wpl.nil | (apply hK; clear hK K) | (apply Wpl.mv; exact rfl; (conv => lhs; whnf)) | (apply Wpl.asg; exact rfl; (conv => lhs; whnf)) | (apply Wpl.guard_run; exact rfl; exact rfl) | (apply Wpl.guard_skip; exact rfl; exact rfl; exact rfl) | (apply Wpl.pickT; exact rfl; exact rfl; (conv => lhs; whnf)) | (apply Wpl.pickF; exact rfl; exact rfl; (conv => lhs; whnf)) | (apply Wpc.cond_true; exact rfl) | (apply Wpc.cond_false; exact rfl) | apply Wpc.block | apply Wpc.skip | apply Wpc.exit | apply Wpc.ret | (apply Wpl.lss; exact rfl; exact rfl; exact rfl; all_goals (intro h; try (exfalso; omega))) | (apply Wpl.gtr; exact rfl; exact rfl; exact rfl; all_goals (intro h; try (exfalso; omega))) | (apply Wpl.add; exact rfl; exact rfl; exact rfl; omega) | (apply Wpl.iface; exact rfl; (conv => lhs; whnf)) | (apply Wpl.idxN; exact rfl; exact rfl; exact rfl; exact rfl; assumption; (exact HasF.r 0 rfl); omega; intro _ _) | ((conv => whnf); clear hK K; apply hK; clear hK K))
    · exact ⟨[_, _], [], ⟨rfl, rfl, trivial⟩, Sel.nil _, fun _ h => h, freeV_bad k (by omega) (.inl (by assumption)), rfl⟩
    · exact ⟨[_, _], [], ⟨rfl, rfl, trivial⟩, Sel.nil _, fun _ h => h, freeV_bad k (by omega) (.inr (by assumption)), rfl⟩
    · refine Wpl.shr rfl rfl rfl (by simp only [IntKind.bits]; omega) ?_
      have := p2_bd (l[k]'(by omega)).toNat
      repeat' (first | apply Wpc.region | apply Wpl.nil | (apply hK; clear hK K) | (apply Wpl.mv; exact rfl; (conv => lhs; whnf)) | (apply Wpl.asg; exact rfl; (conv => lhs; whnf)) | (apply Wpl.add; exact rfl; exact rfl; exact rfl; omega) | (apply Wpl.sub; exact rfl; exact rfl; exact rfl; omega))
      exact ⟨k + 1, ⟨by omega, all_snoc (by omega) hx (by assumption) (by assumption)⟩, by omega, ⟨rfl, by rw [take_snoc l k (by omega), leftAfter_snoc, if_pos (by assumption)]; rfl, rfl, rfl, rfl, trivial⟩, Sel.refl _, fun _ h => h⟩
    · exact ⟨k + 1, ⟨by omega, all_snoc (by omega) hx (by assumption) (by assumption)⟩, by omega, ⟨rfl, by rw [take_snoc l k (by omega), leftAfter_snoc, if_neg (by omega)]; rfl, rfl, rfl, rfl, trivial⟩, Sel.refl _, fun _ h => h⟩
    · exact ⟨[_, _], [], ⟨rfl, rfl, trivial⟩, Sel.nil _, fun _ h => h, (freeV_end k hk (by omega) (by omega) hx).1 (by assumption), rfl⟩
    · exact ⟨[_, _], [], ⟨rfl, rfl, trivial⟩, Sel.nil _, fun _ h => h, (freeV_end k hk (by omega) (by omega) hx).2 (by assumption), rfl⟩

/-! burnishnum -/
theorem num_nil_spec : PSpec Try.prog 45 [.nilIface] [] (.int .i64 0) := by
  refine Ctr.intro Try.func45 (by kernel_rfl) rfl (by conv => lhs; whnf) rfl fun W => ?_
  repeat' (first | (apply Wpc.seqK; intro K hK) | apply Wpc.region | apply Wpl.nil | (apply hK; clear hK K) | (apply Wpl.mv; exact rfl; (conv => lhs; whnf)) | (apply Wpl.asg; exact rfl; (conv => lhs; whnf)) | (apply Wpc.cond_true; exact rfl) | apply Wpc.ret | (apply Wpl.errEqNil; exact rfl; exact rfl))
  exact ⟨[_], [], ⟨rfl, trivial⟩, Sel.nil _, fun _ h => h, rfl, rfl⟩
theorem num_spec (n : Int) (hn : n ≠ 0) : PSpec Try.prog 45 [errV n] [] (.int .i64 n) := by
  refine Ctr.intro Try.func45 (by kernel_rfl) rfl (by conv => lhs; whnf) rfl fun W => ?_
  repeat' (first | (apply Wpc.seqK; intro K hK) | apply Wpc.region | apply Wpl.nil | (apply hK; clear hK K) | (apply Wpl.mv; exact rfl; (conv => lhs; whnf)) | (apply Wpl.asg; exact rfl; (conv => lhs; whnf)) | (apply Wpl.guard_run; exact rfl; exact rfl) | (apply Wpl.pickF; exact rfl; exact rfl; (conv => lhs; whnf)) | (apply Wpc.cond_false; exact rfl) | apply Wpc.skip | apply Wpc.ret | (apply Wpl.extract; exact rfl; exact rfl; exact rfl) | (apply Wpl.unNot; exact rfl; exact rfl) | (apply Wpl.eql; exact rfl; exact rfl; exact rfl; all_goals (intro h; try (exfalso; omega))) | (apply Wpl.errEq; exact rfl; exact rfl) | (apply Wpl.assertOk; exact rfl; exact rfl))
  exact ⟨[_], [], ⟨rfl, trivial⟩, Sel.nil _, fun _ h => h, rfl, rfl⟩
theorem is_nil_spec (m : Int) : PSpec Try.prog 13 [.nilIface, .int .i64 m] [] (.bool (decide (0 = m))) := by
  refine Ctr.intro Try.func13 (by kernel_rfl) rfl (by conv => lhs; whnf) rfl fun W => ?_
  repeat' (first | (apply Wpl.callP; exact rfl; exact rfl; exact rfl; exact rfl; (exact num_nil_spec); (exact HasF.nil)) | (apply Wpc.seqK; intro K hK) | apply Wpc.region | apply Wpl.nil | (apply hK; clear hK K) | (apply Wpl.mv; exact rfl; (conv => lhs; whnf)) | (apply Wpl.asg; exact rfl; (conv => lhs; whnf)) | apply Wpc.ret | (apply Wpl.eql; exact rfl; exact rfl; exact rfl; all_goals (intro h; try (exfalso; omega))))
  all_goals refine ⟨[_], [], ⟨rfl, trivial⟩, Sel.nil _, fun _ h => h, ?_, rfl⟩
  · rw [decide_eq_true (by omega)]; rfl
  · rw [decide_eq_false (by omega)]; rfl
theorem is_spec (n m : Int) (hn : n ≠ 0) : PSpec Try.prog 13 [errV n, .int .i64 m] [] (.bool (decide (n = m))) := by
  refine Ctr.intro Try.func13 (by kernel_rfl) rfl (by conv => lhs; whnf) rfl fun W => ?_
  repeat' (first | (apply Wpl.callP; exact rfl; exact rfl; exact rfl; exact rfl; (exact num_spec n hn); (exact HasF.nil)) | (apply Wpc.seqK; intro K hK) | apply Wpc.region | apply Wpl.nil | (apply hK; clear hK K) | (apply Wpl.mv; exact rfl; (conv => lhs; whnf)) | (apply Wpl.asg; exact rfl; (conv => lhs; whnf)) | apply Wpc.ret | (apply Wpl.eql; exact rfl; exact rfl; exact rfl; all_goals (intro h; try (exfalso; omega))))
  all_goals refine ⟨[_], [], ⟨rfl, trivial⟩, Sel.nil _, fun _ h => h, ?_, rfl⟩
  · rw [decide_eq_true (by omega)]; rfl
  · rw [decide_eq_false (by omega)]; rfl

/-! block.check -/
def blkV (k : Int) (vt vs : Value) : Value := .agg #[.int .i64 k, vt, vs]
noncomputable def checkOk (k : Int) (ts : List (Int × Int)) (st : List Int) : Prop := (0 ≤ k ∧ k ≤ 2) ∧ fits ts st ∧ ¬ (k = 0 ∧ st.length > 65535)
noncomputable def checkV (k : Int) (ts : List (Int × Int)) (st : List Int) : Value := @ite _ (checkOk k ts st) (Classical.propDecidable _) .nilIface (errV 6)
theorem check_ok {k : Int} {ts : List (Int × Int)} {st : List Int} (h : checkOk k ts st) : checkV k ts st = .nilIface := by simp [checkV, h]
theorem check_bad {k : Int} {ts : List (Int × Int)} {st : List Int} (h : ¬ checkOk k ts st) : checkV k ts st = errV 6 := by simp [checkV, h]
theorem check_spec (k : Int) (Ft Fs : Frag) (vt vs : Value) (ts : List (Int × Int)) (st : List Int) (ht : Row Ft 2 vt ts.length (flat tokC ts)) (hs : Row Fs 1 vs st.length (ints .u8 st)) (h8 : bytes8 st)
    (hlt : ts.length ≤ 1000000000000) (hls : st.length ≤ 1000000000000) :
    PSpec Try.prog 34 [blkV k vt vs] [Ft, Fs] (checkV k ts st) := by
  have hsd := sound_spec Ft Fs vt vs ts st ht hs h8 hlt hls
  obtain ⟨a1, c1, rfl⟩ := ht.len
  obtain ⟨a2, c2, rfl⟩ := hs.len
  by_cases hf : fits ts st
  · rw [← Value.bool.inj (fitsB_true hf)] at hsd
    refine Ctr.intro Try.func34 (by kernel_rfl) rfl (by conv => lhs; whnf) rfl fun W => ?_
    repeat' (first | (apply Wpl.callP; exact rfl; exact rfl; exact rfl; exact rfl; (exact hsd); (refine HasF.cons (by (exact HasF.r 0 rfl)) (HasF.cons (by (exact HasF.r 1 rfl)) HasF.nil))) | (apply Wpc.seqK; intro K hK) | apply Wpc.region | apply Wpl.nil | (apply hK; clear hK K) | (apply Wpl.mv; exact rfl; (conv => lhs; whnf)) | (apply Wpl.asg; exact rfl; (conv => lhs; whnf)) | (apply Wpl.guard_run; exact rfl; exact rfl) | (apply Wpl.guard_skip; exact rfl; exact rfl; exact rfl) | (apply Wpl.guard_undef; exact rfl; exact rfl; exact rfl) | (apply Wpl.pickT; exact rfl; exact rfl; (conv => lhs; whnf)) | (apply Wpl.pickF; exact rfl; exact rfl; (conv => lhs; whnf)) | (apply Wpc.cond_true; exact rfl) | (apply Wpc.cond_false; exact rfl) | apply Wpc.skip | apply Wpc.ret | (apply Wpl.unNot; exact rfl; exact rfl) | (apply Wpl.fldS; exact rfl; exact rfl; exact rfl; exact rfl) | (apply Wpl.ld0x0; exact rfl; exact rfl; exact rfl; exact rfl) | (apply Wpl.lss; exact rfl; exact rfl; exact rfl; all_goals (intro h; try (exfalso; omega))) | (apply Wpl.gtr; exact rfl; exact rfl; exact rfl; all_goals (intro h; try (exfalso; omega))) | (apply Wpl.eql; exact rfl; exact rfl; exact rfl; all_goals (intro h; try (exfalso; omega))) | (apply Wpl.boxA; exact rfl; exact rfl; intro _) | (apply Wpl.len; exact rfl; exact rfl) | (apply Wpl.iface; exact rfl; (conv => lhs; whnf)))
    all_goals refine ⟨[_], [], ⟨rfl, trivial⟩, Sel.nil _, fun _ h => h, ?_, rfl⟩
    · exact (check_bad (fun h => by have := h.1; omega)).symm
    · exact (check_bad (fun h => by have := h.1; omega)).symm
    · exact (check_bad (fun h => h.2.2 ⟨by omega, by omega⟩)).symm
    · exact (check_ok ⟨by omega, hf, fun h => by omega⟩).symm
    · exact (check_ok ⟨by omega, hf, fun h => by omega⟩).symm
  · rw [← Value.bool.inj (fitsB_false hf)] at hsd
    rw [check_bad (fun h => hf h.2.1)]
    refine Ctr.intro Try.func34 (by kernel_rfl) rfl (by conv => lhs; whnf) rfl fun W => ?_
    repeat' (first | (apply Wpl.callP; exact rfl; exact rfl; exact rfl; exact rfl; (exact hsd); (refine HasF.cons (by (exact HasF.r 0 rfl)) (HasF.cons (by (exact HasF.r 1 rfl)) HasF.nil))) | (apply Wpc.seqK; intro K hK) | apply Wpc.region | apply Wpl.nil | (apply hK; clear hK K) | (apply Wpl.mv; exact rfl; (conv => lhs; whnf)) | (apply Wpl.asg; exact rfl; (conv => lhs; whnf)) | (apply Wpl.guard_run; exact rfl; exact rfl) | (apply Wpl.guard_skip; exact rfl; exact rfl; exact rfl) | (apply Wpl.guard_undef; exact rfl; exact rfl; exact rfl) | (apply Wpl.pickT; exact rfl; exact rfl; (conv => lhs; whnf)) | (apply Wpl.pickF; exact rfl; exact rfl; (conv => lhs; whnf)) | (apply Wpc.cond_true; exact rfl) | apply Wpc.ret | (apply Wpl.unNot; exact rfl; exact rfl) | (apply Wpl.fldS; exact rfl; exact rfl; exact rfl; exact rfl) | (apply Wpl.ld0x0; exact rfl; exact rfl; exact rfl; exact rfl) | (apply Wpl.lss; exact rfl; exact rfl; exact rfl; all_goals (intro h; try (exfalso; omega))) | (apply Wpl.gtr; exact rfl; exact rfl; exact rfl; all_goals (intro h; try (exfalso; omega))) | (apply Wpl.boxA; exact rfl; exact rfl; intro _) | (apply Wpl.iface; exact rfl; (conv => lhs; whnf)))
    all_goals exact ⟨[_], [], ⟨rfl, trivial⟩, Sel.nil _, fun _ h => h, rfl, rfl⟩

/-! small parts of package block -/
theorem low_nil_spec : PSpec Try.prog 37 [.pointer none] [] (.bool false) := by
  refine Ctr.intro Try.func37 (by kernel_rfl) rfl (by conv => lhs; whnf) rfl fun W => ?_
  repeat' (first | (apply Wpc.seqK; intro K hK) | apply Wpc.region | apply Wpl.nil | (apply hK; clear hK K) | (apply Wpl.mv; exact rfl; (conv => lhs; whnf)) | (apply Wpl.asg; exact rfl; (conv => lhs; whnf)) | (apply Wpl.guard_skip; exact rfl; exact rfl; exact rfl) | (apply Wpl.pickF; exact rfl; exact rfl; (conv => lhs; whnf)) | apply Wpc.ret | (apply Wpl.ptrNe; exact rfl; exact rfl; exact rfl; exact rfl))
  exact ⟨[_], [], ⟨rfl, trivial⟩, Sel.nil _, fun _ h => h, rfl, rfl⟩
theorem low_spec {hi : Bool} {bs : List Int} {n : Nat} {v : Value} {FW FB : Frag} (h : Wr hi bs n v FW FB) : PSpec Try.prog 37 [v] [FW] (.bool (!hi)) := by
  obtain ⟨b, vs, rfl, rfl, hr⟩ := h.at_
  refine Ctr.intro Try.func37 (by kernel_rfl) rfl (by conv => lhs; whnf) rfl fun W => ?_
  repeat' (first | (apply Wpl.callP; exact rfl; exact rfl; exact rfl; exact rfl; (exact high_spec h); (refine HasF.cons (by (exact HasF.r 0 rfl)) HasF.nil)) | (apply Wpc.seqK; intro K hK) | apply Wpc.region | apply Wpl.nil | (apply hK; clear hK K) | (apply Wpl.mv; exact rfl; (conv => lhs; whnf)) | (apply Wpl.asg; exact rfl; (conv => lhs; whnf)) | (apply Wpl.guard_run; exact rfl; exact rfl) | (apply Wpl.pickT; exact rfl; exact rfl; (conv => lhs; whnf)) | apply Wpc.ret | (apply Wpl.unNot; exact rfl; exact rfl) | (apply Wpl.ptrNe; exact rfl; exact rfl; exact rfl; exact rfl))
  exact ⟨[_], [], ⟨rfl, trivial⟩, Sel.nil _, fun _ h => h, rfl, rfl⟩

/-- how often the value at a place stands from there on -/
def sameFrom (l : List Int) (a : Nat) : Nat → Nat → Nat
  | 0, n => n
  | fuel + 1, n => if a + n < l.length ∧ l[a + n]?.getD 0 = l[a]?.getD 0 then sameFrom l a fuel (n + 1) else n
def sameM (l : List Int) (a : Nat) : Nat := sameFrom l a l.length 1
theorem sameFrom_step {l : List Int} {a fuel n : Nat} (h : a + n < l.length) (he : l[a + n]?.getD 0 = l[a]?.getD 0) : sameFrom l a (fuel + 1) n = sameFrom l a fuel (n + 1) := by
  rw [sameFrom, if_pos ⟨h, he⟩]
theorem sameFrom_stop {l : List Int} {a fuel n : Nat} (h : ¬ (a + n < l.length ∧ l[a + n]?.getD 0 = l[a]?.getD 0)) : sameFrom l a fuel n = n := by
  cases fuel with
  | zero => rfl
  | succ f => rw [sameFrom, if_neg h]
theorem same_spec (F : Frag) (v : Value) (l : List Int) (a : Nat) (hv : Row F 1 v l.length (ints .i64 l)) (ha : a < l.length) (hl : l.length ≤ 1000000000000) :
    PSpec Try.prog 143 [v, .int .i64 a] [F] (.int .i64 (sameM l a)) := by
  obtain ⟨a1, c1, rfl⟩ := hv.len
  refine Ctr.intro Try.func143 (by kernel_rfl) rfl (by conv => lhs; whnf) rfl fun W => ?_
  repeat' (first | (apply Wpc.seqK; intro K hK) | apply Wpc.region | apply Wpl.nil | (apply hK; clear hK K) | (apply Wpl.asg; exact rfl; (conv => lhs; whnf)) | apply Wpc.block)
  refine Wpc.loop (ι := Nat) (fun n => 1 ≤ n ∧ a + n ≤ l.length ∧ sameM l a = sameFrom l a (l.length + 1 - n) n)
    (fun n => [(0, .slice a1 l.length c1), (1, .int .i64 a), (5, .int .i64 n)]) (fun _ => []) (fun n => l.length - n) 1 ⟨by omega, by omega, rfl⟩ ⟨rfl, rfl, rfl, trivial⟩ (Sel.refl _) ?_
  rintro n g ⟨h1, hn, he⟩
  repeat' (first | (apply Wpc.region_draw; kernel_rfl; kernel_rfl) | (apply Wpc.seqK; intro K hK) | apply Wpc.region | apply Wpl.nil | (apply hK; clear hK K) | (apply Wpl.mv; exact rfl; (conv => lhs; whnf)) | (apply Wpl.asg; exact rfl; (conv => lhs; whnf)) | (apply Wpl.guard_run; exact rfl; exact rfl) | (apply Wpl.guard_skip; exact rfl; exact rfl; exact rfl) | (apply Wpl.pickT; exact rfl; exact rfl; (conv => lhs; whnf)) | (apply Wpl.pickF; exact rfl; exact rfl; (conv => lhs; whnf)) | (apply Wpc.cond_true; exact rfl) | (apply Wpc.cond_false; exact rfl) | apply Wpc.block | apply Wpc.skip | apply Wpc.exit | apply Wpc.ret | (apply Wpl.lss; exact rfl; exact rfl; exact rfl; all_goals (intro h; try (exfalso; omega))) | (apply Wpl.eql; exact rfl; exact rfl; exact rfl; all_goals (intro h; try (exfalso; omega))) | (apply Wpl.add; exact rfl; exact rfl; exact rfl; omega) | (apply Wpl.len; exact rfl; exact rfl) | (apply Wpl.idxAN; exact rfl; exact rfl; exact rfl; assumption; omega; intro _ _ _) | (apply Wpl.ldP; exact rfl; exact rfl; assumption; (exact HasF.r 0 rfl)) | ((conv => whnf); clear hK K; apply hK; clear hK K))
  · have e2 : l[a + n]?.getD 0 = l[a]?.getD 0 := by rw [getD_get (by omega), getD_get ha]; assumption
    exact ⟨n + 1, ⟨by omega, by omega, by rw [he, show l.length + 1 - n = (l.length - n) + 1 by omega, sameFrom_step (by omega) e2, show l.length + 1 - (n + 1) = l.length - n by omega]⟩, by omega, ⟨rfl, rfl, rfl, trivial⟩, Sel.refl _, fun _ h => h⟩
  · refine ⟨[_], [], ⟨rfl, trivial⟩, Sel.nil _, fun _ h => h, ?_, rfl⟩
    have hst : ¬ (a + n < l.length ∧ l[a + n]?.getD 0 = l[a]?.getD 0) := by
      rintro ⟨h2, h3⟩
      rw [getD_get h2, getD_get ha] at h3
      contradiction
    rw [he, sameFrom_stop hst]; rfl
  · refine ⟨[_], [], ⟨rfl, trivial⟩, Sel.nil _, fun _ h => h, ?_, rfl⟩
    rw [he, sameFrom_stop (by omega)]; rfl

theorem sameM_bd {l : List Int} {a : Nat} (ha : a < l.length) : 1 ≤ sameM l a ∧ a + sameM l a ≤ l.length := by
  have : ∀ fuel n, 1 ≤ n → a + n ≤ l.length → 1 ≤ sameFrom l a fuel n ∧ a + sameFrom l a fuel n ≤ l.length := by
    intro fuel
    induction fuel with
    | zero => intro n h1 h2; exact ⟨h1, h2⟩
    | succ f ih =>
      intro n h1 h2
      unfold sameFrom
      split
      · exact ih (n + 1) (by omega) (by omega)
      · exact ⟨h1, h2⟩
  exact this _ 1 (by omega) (by omega)

/-- trimmed of nulls at the end -/
def trimN (l : List Int) (least : Nat) : Nat → Nat
  | 0 => 0
  | n + 1 => if least < n + 1 ∧ l[n]?.getD 0 = 0 then trimN l least n else n + 1
theorem trimN_le (l : List Int) (least : Nat) : ∀ n, trimN l least n ≤ n ∧ (least ≤ n → least ≤ trimN l least n)
  | 0 => ⟨Nat.le_refl _, fun h => h⟩
  | n + 1 => by
    unfold trimN
    have := trimN_le l least n
    split <;> omega
theorem trim_spec (F : Frag) (b off n c least : Nat) (l : List Int) (hv : Row F 1 (.slice (some ⟨b, off, none⟩) n c) n (ints .i64 l)) (hl : l.length ≤ 1000000000000) :
    PSpec Try.prog 105 [.slice (some ⟨b, off, none⟩) n c, .int .i64 least] [F] (.slice (some ⟨b, off, none⟩) (trimN l least n) c) := by
  have hln : l.length = n := by have := hv.1; rw [ints_length] at this; omega
  have hnc : n ≤ c := by obtain ⟨_, a, cap, he, h1, _⟩ := hv; cases he; exact h1
  refine Ctr.intro Try.func105 (by kernel_rfl) rfl (by conv => lhs; whnf) rfl fun W => ?_
  repeat' (first | (apply Wpc.seqK; intro K hK) | apply Wpc.region | apply Wpl.nil | (apply hK; clear hK K) | (apply Wpl.asg; exact rfl; (conv => lhs; whnf)) | apply Wpc.block)
  refine Wpc.loop (ι := Nat) (fun m => m ≤ n ∧ trimN l least n = trimN l least m)
    (fun m => [(0, .slice (some ⟨b, off, none⟩) m c), (1, .int .i64 least)]) (fun _ => []) (fun m => m) n ⟨by omega, rfl⟩ ⟨rfl, rfl, trivial⟩ (Sel.refl _) ?_
  rintro m g ⟨hm, he⟩
  have hvm := hv.takeI hm
  have hlm : (l.take m).length = m := by rw [List.length_take]; omega
  repeat' (first | (apply Wpc.seqK; intro K hK) | apply Wpc.region | apply Wpl.nil | (apply hK; clear hK K) | (apply Wpl.mv; exact rfl; (conv => lhs; whnf)) | (apply Wpl.asg; exact rfl; (conv => lhs; whnf)) | (apply Wpl.guard_run; exact rfl; exact rfl) | (apply Wpl.guard_skip; exact rfl; exact rfl; exact rfl) | (apply Wpl.pickT; exact rfl; exact rfl; (conv => lhs; whnf)) | (apply Wpl.pickF; exact rfl; exact rfl; (conv => lhs; whnf)) | (apply Wpc.cond_true; exact rfl) | (apply Wpc.cond_false; exact rfl) | apply Wpc.block | apply Wpc.skip | apply Wpc.exit | apply Wpc.ret | (apply Wpl.gtr; exact rfl; exact rfl; exact rfl; all_goals (intro h; try (exfalso; omega))) | (apply Wpl.eql; exact rfl; exact rfl; exact rfl; all_goals (intro h; try (exfalso; omega))) | (apply Wpl.sub; exact rfl; exact rfl; exact rfl; omega) | (apply Wpl.sliceH; exact rfl; exact rfl; exact rfl; omega; omega) | (apply Wpl.len; exact rfl; exact rfl) | (apply Wpl.idxA; exact rfl; exact rfl; exact rfl; assumption; omega; omega; intro _ _ _) | (apply Wpl.ldP; exact rfl; exact rfl; assumption; (exact HasF.r 0 rfl)) | ((conv => whnf); clear hK K; apply hK; clear hK K))
  · have hm1 : m - 1 < l.length := by omega
    have e0 : (List.take m l)[((m : Int) - 1).toNat]'(by omega) = l[m - 1] := by
      rw [List.getElem_take]
      congr 1
      omega
    have et : trimN l least m = trimN l least (m - 1) := by
      obtain ⟨m', rfl⟩ : ∃ m', m = m' + 1 := ⟨m - 1, by omega⟩
      rw [trimN, if_pos ⟨by omega, by rw [getD_get (by omega)]; have h5 : l[m' + 1 - 1]'(by omega) = 0 := (by rw [← e0]; assumption); exact h5⟩]
      rfl
    exact ⟨m - 1, ⟨by omega, by rw [he, et]⟩, by omega, ⟨congrArg (fun k => Value.slice (some ⟨b, off, none⟩) k c) (by omega), rfl, trivial⟩, Sel.refl _, fun _ h => h⟩
  · have e0 : (List.take m l)[((m : Int) - 1).toNat]'(by omega) = l[m - 1]'(by omega) := by
      rw [List.getElem_take]
      congr 1
      omega
    refine ⟨[_], [], ⟨rfl, trivial⟩, Sel.nil _, fun _ h => h, ?_, rfl⟩
    have et : trimN l least m = m := by
      obtain ⟨m', rfl⟩ : ∃ m', m = m' + 1 := ⟨m - 1, by omega⟩
      rw [trimN, if_neg]
      rintro ⟨_, h3⟩
      rw [getD_get (by omega)] at h3
      have h4 : l[m' + 1 - 1]'(by omega) = 0 := h3
      rw [← e0] at h4
      contradiction
    rw [he, et]; rfl
  · refine ⟨[_], [], ⟨rfl, trivial⟩, Sel.nil _, fun _ h => h, ?_, rfl⟩
    have et : trimN l least m = m := by
      cases m with
      | zero => rfl
      | succ m' => rw [trimN, if_neg (by omega)]
    rw [he, et]; rfl
end Go.Proofs.Ytmfcgffdijnokaa
set_option maxRecDepth 100000
set_option maxHeartbeats 4000000
namespace Go.Proofs.Ytmfcgffdijnokaa
open Go.SL Go.RowKit
attribute [local irreducible] Wpl Wpc Wph
/-! slices.IndexFunc, ContainsFunc at int; block.two -/
def fnV (g : FuncId) : Value := .func (.func g) #[] #[]
def idxF (p : Int → Bool) (l : List Int) : Int := if l.any p then (l.findIdx p : Int) else -1
theorem idxF_hit {p : Int → Bool} {l : List Int} {k : Nat} (hk : k < l.length) (h : p l[k] = true) (hb : ∀ j (hj : j < k), p (l[j]'(by omega)) = false) : idxF p l = k := by
  have : l.any p = true := List.any_eq_true.2 ⟨_, List.getElem_mem hk, h⟩
  rw [idxF, if_pos this, (List.findIdx_eq hk).2 ⟨h, hb⟩]
theorem idxF_miss {p : Int → Bool} {l : List Int} (hb : ∀ j (hj : j < l.length), p l[j] = false) : idxF p l = -1 := by
  have : ¬ l.any p = true := fun h => by
    obtain ⟨x, hx, hp⟩ := List.any_eq_true.1 h
    obtain ⟨j, hj, rfl⟩ := List.getElem_of_mem hx
    rw [hb j hj] at hp; cases hp
  rw [idxF, if_neg this]
theorem indexFunc_spec (F : Frag) (v : Value) (l : List Int) (g : FuncId) (p : Int → Bool) (hv : Row F 1 v l.length (ints .i64 l)) (hl : l.length ≤ 1000000000000) (hp : ∀ n, PSpec Try.prog g [.int .i64 n] [] (.bool (p n))) :
    PSpec Try.prog 152 [v, fnV g] [F] (.int .i64 (idxF p l)) := by
  obtain ⟨a1, c1, rfl⟩ := hv.len
  refine Ctr.intro Try.func152 (by kernel_rfl) rfl (by conv => lhs; whnf) rfl fun W => ?_
  repeat' (first | (apply Wpc.seqK; intro K hK) | apply Wpc.region | apply Wpl.nil | (apply hK; clear hK K) | (apply Wpl.mv; exact rfl; (conv => lhs; whnf)) | (apply Wpl.asg; exact rfl; (conv => lhs; whnf)) | apply Wpc.block | (apply Wpl.len; exact rfl; exact rfl))
  refine Wpc.loop (ι := Nat) (fun k => k ≤ l.length ∧ ∀ j (hj : j < l.length), j < k → p l[j] = false)
    (fun k => [(0, .slice a1 l.length c1), (1, fnV g), (7, .int .i64 l.length), (8, .int .i64 k)]) (fun _ => []) (fun k => l.length - k) 0 ⟨by omega, fun j hj h => by omega⟩ ⟨rfl, rfl, rfl, rfl, trivial⟩ (Sel.refl _) ?_
  rintro k g' ⟨hk, hb⟩
  repeat' (first | (apply Wpc.seqK; intro K hK) | apply Wpc.region | apply Wpl.nil | (apply hK; clear hK K) | (apply Wpl.mv; exact rfl; (conv => lhs; whnf)) | (apply Wpl.asg; exact rfl; (conv => lhs; whnf)) | (apply Wpc.cond_true; exact rfl) | (apply Wpc.cond_false; exact rfl) | apply Wpc.block | apply Wpc.skip | apply Wpc.exit | apply Wpc.ret | (apply Wpl.lss; exact rfl; exact rfl; exact rfl; all_goals (intro h; try (exfalso; omega))) | (apply Wpl.idxN; exact rfl; exact rfl; exact rfl; exact rfl; assumption; (exact HasF.r 0 rfl); omega; intro _ _) | ((conv => whnf); clear hK K; apply hK; clear hK K))
  · have hkl : k < l.length := by omega
    cases hpk : p l[k] with
    | true =>
      have hpp := hp l[k]
      rw [hpk] at hpp
      repeat' (first | (apply Wpl.callP; exact rfl; exact rfl; exact rfl; exact rfl; (exact hpp); (exact HasF.nil)) | (apply Wpc.seqK; intro K hK) | apply Wpc.region | apply Wpl.nil | (apply hK; clear hK K) | (apply Wpl.mv; exact rfl; (conv => lhs; whnf)) | (apply Wpl.asg; exact rfl; (conv => lhs; whnf)) | (apply Wpc.cond_true; exact rfl) | apply Wpc.ret)
      exact ⟨[_], [], ⟨rfl, trivial⟩, Sel.nil _, fun _ h => h, by rw [idxF_hit hkl hpk (fun j hj => hb j (by omega) hj)]; rfl, rfl⟩
    | false =>
      have hpp := hp l[k]
      rw [hpk] at hpp
      repeat' (first | (apply Wpl.callP; exact rfl; exact rfl; exact rfl; exact rfl; (exact hpp); (exact HasF.nil)) | apply Wpc.region | apply Wpl.nil | (apply hK; clear hK K) | (apply Wpl.mv; exact rfl; (conv => lhs; whnf)) | (apply Wpc.cond_false; exact rfl) | apply Wpc.skip | (apply Wpl.add; exact rfl; exact rfl; exact rfl; omega))
      exact ⟨k + 1, ⟨by omega, fun j hj h => by
        rcases (show j < k ∨ j = k by omega) with h | rfl
        · exact hb j hj h
        · exact hpk⟩, by omega, ⟨rfl, rfl, rfl, rfl, trivial⟩, Sel.refl _, fun _ h => h⟩
  · exact ⟨[_], [], ⟨rfl, trivial⟩, Sel.nil _, fun _ h => h, by rw [idxF_miss (fun j hj => hb j hj (by omega))]; rfl, rfl⟩
theorem containsFunc_spec (F : Frag) (v : Value) (l : List Int) (g : FuncId) (p : Int → Bool) (hv : Row F 1 v l.length (ints .i64 l)) (hl : l.length ≤ 1000000000000) (hp : ∀ n, PSpec Try.prog g [.int .i64 n] [] (.bool (p n))) :
    PSpec Try.prog 122 [v, fnV g] [F] (.bool (l.any p)) := by
  have hi := indexFunc_spec F v l g p hv hl hp
  unfold idxF at hi
  cases ha : l.any p with
  | true =>
    rw [if_pos ha] at hi
    refine Ctr.intro Try.func122 (by kernel_rfl) rfl (by conv => lhs; whnf) rfl fun W => ?_
    repeat' (first | (apply Wpl.callP; exact rfl; exact rfl; exact rfl; exact rfl; (exact hi); (refine HasF.cons (by (exact HasF.r 0 rfl)) HasF.nil)) | (apply Wpc.seqK; intro K hK) | apply Wpc.region | apply Wpl.nil | (apply hK; clear hK K) | (apply Wpl.mv; exact rfl; (conv => lhs; whnf)) | (apply Wpl.asg; exact rfl; (conv => lhs; whnf)) | apply Wpc.ret | (apply Wpl.geq; exact rfl; exact rfl; exact rfl; all_goals (intro h; try (exfalso; omega))))
    exact ⟨[_], [], ⟨rfl, trivial⟩, Sel.nil _, fun _ h => h, rfl, rfl⟩
  | false =>
    rw [if_neg (by rw [ha]; decide)] at hi
    refine Ctr.intro Try.func122 (by kernel_rfl) rfl (by conv => lhs; whnf) rfl fun W => ?_
    repeat' (first | (apply Wpl.callP; exact rfl; exact rfl; exact rfl; exact rfl; (exact hi); (refine HasF.cons (by (exact HasF.r 0 rfl)) HasF.nil)) | (apply Wpc.seqK; intro K hK) | apply Wpc.region | apply Wpl.nil | (apply hK; clear hK K) | (apply Wpl.mv; exact rfl; (conv => lhs; whnf)) | (apply Wpl.asg; exact rfl; (conv => lhs; whnf)) | apply Wpc.ret | (apply Wpl.geq; exact rfl; exact rfl; exact rfl; all_goals (intro h; try (exfalso; omega))))
    exact ⟨[_], [], ⟨rfl, trivial⟩, Sel.nil _, fun _ h => h, rfl, rfl⟩

/-- at least two counts are not null -/
def posN (l : List Int) : Nat := l.countP (fun x => decide (0 < x))
def twoGo : Nat → List Int → Nat → Nat → List Int
  | 0, l, _, _ => l
  | f + 1, l, i, c => if c < 2 then (if l[i]?.getD 0 = 0 then twoGo f (l.set i 1) (i + 1) (c + 1) else twoGo f l (i + 1) c) else l
def twoM (l : List Int) : List Int := twoGo (l.length + 1) l 0 (posN l)
theorem posN_snoc (l : List Int) (x : Int) : posN (l ++ [x]) = posN l + if 0 < x then 1 else 0 := by simp [posN, List.countP_append, List.countP_cons]
theorem posN_le (l : List Int) : posN l ≤ l.length := List.countP_le_length
theorem posN_all {l : List Int} (h : ∀ x ∈ l, 0 < x) : posN l = l.length := by
  rw [posN, List.countP_eq_length]
  intro x hx; simpa using h x hx
theorem posN_set {l : List Int} {i : Nat} (hi : i < l.length) (h0 : l[i] = 0) : posN (l.set i 1) = posN l + 1 := by
  rw [posN, List.countP_set hi, posN]
  have : ¬ (0 < l[i]) := by omega
  simp [this]
theorem two_spec (F : Frag) (v : Value) (l : List Int) (hv : OwnRow 3 1 F v l.length (ints .i64 l)) (hl : l.length ≤ 1000000000000) (h2 : 2 ≤ l.length) (h0 : ∀ x ∈ l, 0 ≤ x) :
    Ctr Try.prog 104 [v] [] [F] (fun r M' => r = v ∧ ∃ F', M' = [F'] ∧ OwnRow 3 1 F' v l.length (ints .i64 (twoM l))) := by
  obtain ⟨a1, c1, rfl⟩ := hv.row.len
  have hrow := hv.row
  refine Ctr.intro Try.func104 (by kernel_rfl) rfl (by conv => lhs; whnf) rfl fun W => ?_
  repeat' (first | (apply Wpc.seqK; intro K hK) | apply Wpc.region | apply Wpl.nil | (apply hK; clear hK K) | (apply Wpl.mv; exact rfl; (conv => lhs; whnf)) | (apply Wpl.asg; exact rfl; (conv => lhs; whnf)) | apply Wpc.block | (apply Wpl.len; exact rfl; exact rfl))
  refine Wpc.loop (ι := Nat) (fun k => k ≤ l.length)
    (fun k => [(0, .slice a1 l.length c1), (3, .int .i64 (posN (l.take k))), (7, .slice a1 l.length c1), (8, .int .i64 l.length), (9, .int .i64 k)]) (fun _ => [F]) (fun k => l.length - k) 0 (by omega) ⟨rfl, rfl, rfl, rfl, rfl, trivial⟩ (Sel.refl _) ?_
  rintro k g hk
  have hpl := posN_le (l.take k)
  have hlt := List.length_take_le k l
  repeat' (first | (apply Wpc.seqK; intro K hK) | apply Wpc.region | apply Wpl.nil | (apply hK; clear hK K) | (apply Wpl.mv; exact rfl; (conv => lhs; whnf)) | (apply Wpl.asg; exact rfl; (conv => lhs; whnf)) | (apply Wpc.cond_true; exact rfl) | (apply Wpc.cond_false; exact rfl) | apply Wpc.block | apply Wpc.skip | apply Wpc.exit | (apply Wpl.lss; exact rfl; exact rfl; exact rfl; all_goals (intro h; try (exfalso; omega))) | (apply Wpl.gtr; exact rfl; exact rfl; exact rfl; all_goals (intro h; try (exfalso; omega))) | (apply Wpl.add; exact rfl; exact rfl; exact rfl; omega) | (apply Wpl.idxN; exact rfl; exact rfl; exact rfl; exact rfl; assumption; (exact HasF.m 0 rfl); omega; intro _ _) | ((conv => whnf); clear hK K; apply hK; clear hK K))
  · have hkl : k < l.length := by omega
    exact ⟨k + 1, by omega, by omega, ⟨rfl, by rw [take_snoc l k hkl, posN_snoc, if_pos (by assumption)]; rfl, rfl, rfl, rfl, trivial⟩, Sel.refl _, fun _ h => h⟩
  · have hkl : k < l.length := by omega
    exact ⟨k + 1, by omega, by omega, ⟨rfl, by rw [take_snoc l k hkl, posN_snoc, if_neg (by omega)]; rfl, rfl, rfl, rfl, trivial⟩, Sel.refl _, fun _ h => h⟩
  have hkl : k = l.length := by omega
  subst hkl
  have htl : l.take l.length = l := List.take_length
  refine Wpc.loop (ι := Nat × List Int × Frag) (fun i => i.1 ≤ l.length ∧ i.2.1.length = l.length ∧ OwnRow 3 1 i.2.2 (.slice a1 l.length c1) l.length (ints .i64 i.2.1) ∧ (∀ x ∈ i.2.1, 0 ≤ x) ∧ (∀ j (hj : j < i.2.1.length), j < i.1 → i.2.1[j] ≠ 0) ∧ twoM l = twoGo (l.length + 1 - i.1) i.2.1 i.1 (posN i.2.1))
    (fun i => [(0, .slice a1 l.length c1), (3, .int .i64 (posN i.2.1)), (6, .int .i64 i.1)]) (fun i => [i.2.2]) (fun i => l.length - i.1) (0, l, F)
    ⟨by omega, rfl, hv, h0, fun j hj h => by omega, rfl⟩ ⟨rfl, by rw [htl]; rfl, rfl, trivial⟩ (Sel.refl _) ?_
  rintro ⟨i, l', F'⟩ g ⟨hi, hl', hv', h0', hz, he⟩
  dsimp only at hi hl' hv' h0' hz he ⊢
  have hrow' := hv'.row
  have hpl' := posN_le l'
  by_cases hi2 : i < l.length
  · have hb := h0' (l'[i]'(by omega)) (List.getElem_mem _)
    repeat' (first | (apply Wpc.seqK; intro K hK) | apply Wpc.region | apply Wpl.nil | (apply hK; clear hK K) | (apply Wpl.mv; exact rfl; (conv => lhs; whnf)) | (apply Wpl.asg; exact rfl; (conv => lhs; whnf)) | (apply Wpc.cond_true; exact rfl) | (apply Wpc.cond_false; exact rfl) | apply Wpc.block | apply Wpc.skip | apply Wpc.exit | apply Wpc.ret | (apply Wpl.lss; exact rfl; exact rfl; exact rfl; all_goals (intro h; try (exfalso; omega))) | (apply Wpl.eql; exact rfl; exact rfl; exact rfl; all_goals (intro h; try (exfalso; omega))) | (apply Wpl.add; exact rfl; exact rfl; exact rfl; omega) | (apply Wpl.idxN; exact rfl; exact rfl; exact rfl; exact rfl; assumption; (exact HasF.m 0 rfl); omega; intro _ _) | ((conv => whnf); clear hK K; apply hK; clear hK K))
    · refine Wpl.idxSt 0 rfl hv' rfl rfl rfl (by omega) (by omega) (fun _ => rfl) rfl (fun _ F2 hv2 => ?_)
      have ei : ((i : Nat) : Int).toNat = i := rfl
      rw [ints_set, ei] at hv2
      have hz0 : l'[i]'(by omega) = 0 := by assumption
      have hps := posN_set (by omega) hz0
      have est : twoGo (l.length + 1 - i) l' i (posN l') = twoGo (l.length + 1 - (i + 1)) (l'.set i 1) (i + 1) (posN (l'.set i 1)) := by
        rw [show l.length + 1 - i = (l.length + 1 - (i + 1)) + 1 by omega, twoGo, if_pos (by omega), if_pos (by rw [getD_get (by omega)]; exact hz0), hps]
      repeat' (first | apply Wpc.region | apply Wpl.nil | (apply hK; clear hK K) | (apply Wpl.mv; exact rfl; (conv => lhs; whnf)) | (apply Wpl.asg; exact rfl; (conv => lhs; whnf)) | (apply Wpl.add; exact rfl; exact rfl; exact rfl; omega))
      exact ⟨(i + 1, l'.set i 1, F2), ⟨by omega, by rw [List.length_set]; exact hl', hv2, fun x hx => by
        rcases List.mem_or_eq_of_mem_set hx with hx | rfl
        · exact h0' x hx
        · omega, fun j hj h => by
          dsimp only at hj h ⊢
          rw [List.length_set] at hj
          rw [List.getElem_set]
          split
          · omega
          · exact hz j hj (by omega), by rw [he]; exact est⟩, by show l.length - (i + 1) < l.length - i; omega, ⟨rfl, by rw [hps]; rfl, rfl, trivial⟩, Sel.refl _, fun _ h => h⟩
    · have hz0 : l'[i]'(by omega) ≠ 0 := by assumption
      have est : twoGo (l.length + 1 - i) l' i (posN l') = twoGo (l.length + 1 - (i + 1)) l' (i + 1) (posN l') := by
        rw [show l.length + 1 - i = (l.length + 1 - (i + 1)) + 1 by omega, twoGo, if_pos (by omega), if_neg (by rw [getD_get (by omega)]; exact hz0)]
      exact ⟨(i + 1, l', F'), ⟨by omega, hl', hv', h0', fun j hj h => by
          rcases (show j < i ∨ j = i by omega) with h | rfl
          · exact hz j hj h
          · exact hz0, by rw [he]; exact est⟩, by show l.length - (i + 1) < l.length - i; omega, ⟨rfl, rfl, rfl, trivial⟩, Sel.refl _, fun _ h => h⟩
    · have est : twoM l = l' := by rw [he, show l.length + 1 - i = (l.length - i) + 1 by omega, twoGo, if_neg (by omega)]
      exact ⟨[_], _, ⟨rfl, trivial⟩, Sel.refl _, fun _ h => h, rfl, F', rfl, by rw [est]; exact hv'⟩
  · have hall : posN l' = l'.length := posN_all (fun x hx => by
      obtain ⟨j, hj, rfl⟩ := List.getElem_of_mem hx
      have := hz j hj (by omega)
      have := h0' _ hx
      omega)
    repeat' (first | (apply Wpc.seqK; intro K hK) | apply Wpc.region | apply Wpl.nil | (apply hK; clear hK K) | (apply Wpl.mv; exact rfl; (conv => lhs; whnf)) | (apply Wpl.asg; exact rfl; (conv => lhs; whnf)) | (apply Wpc.cond_false; exact rfl) | apply Wpc.exit | apply Wpc.ret | (apply Wpl.lss; exact rfl; exact rfl; exact rfl; all_goals (intro h; try (exfalso; omega))) | ((conv => whnf); clear hK K; apply hK; clear hK K))
    have est : twoM l = l' := by rw [he, show l.length + 1 - i = (l.length - i) + 1 by omega, twoGo, if_neg (by omega)]
    exact ⟨[_], _, ⟨rfl, trivial⟩, Sel.refl _, fun _ h => h, rfl, F', rfl, by rw [est]; exact hv'⟩
end Go.Proofs.Ytmfcgffdijnokaa
set_option maxRecDepth 100000
set_option maxHeartbeats 4000000
namespace Go.Proofs.Ytmfcgffdijnokaa
open Go.SL Go.RowKit
attribute [local irreducible] Wpl Wpc Wph
/-! block.Runs -/
section
variable {q : Md} {C : Cx} {ops : Array Oper} {rest : List Oper} {Q : Exit → Env → List Frag → List Frag → Prop} {f : Env} {R M : List Frag}
variable {d : Nat} {ty T T2 : TypeId} {pos : String} {af : Array Edge} {x y : Operand}
theorem Wpl.shlV {m n w : Int} {k2 : IntKind} (hd : Nat.blt d C.n = true) (hx : f.ev x = .int .i64 m) (hy : f.ev y = .int k2 n) (h0 : 0 ≤ n ∧ n ≤ 64) (hw : m * 2 ^ n.toNat = w) (hb : -9223372036854775808 ≤ w ∧ w ≤ 9223372036854775807)
    (k1 : Wpl q C ops rest Q (f.upd d (.int .i64 w)) R M) : Wpl q C ops (⟨some d, .binOp .shl T x y T2, ty, pos, af, none⟩ :: rest) Q f R M :=
  Wpl.shl hd hx hy h0 (by rw [hw]; exact hb) (by rw [hw]; exact k1)
end
def runSym (l : List Int) (i : Nat) : Int :=
  if l[i]?.getD 0 = 0 ∧ 11 ≤ sameM l i then 18 else if l[i]?.getD 0 = 0 ∧ 3 ≤ sameM l i then 17
  else if 0 < i ∧ l[i - 1]?.getD 0 = l[i]?.getD 0 ∧ 3 ≤ sameM l i then 16 else l[i]?.getD 0
def runMost (s : Int) : Int := (reachM s).1 + 2 ^ (reachM s).2.toNat - 1
def runCnt (l : List Int) (i : Nat) : Int := min (sameM l i : Int) (runMost (runSym l i))
def runsGo (l : List Int) : Nat → Nat → List (Int × Int)
  | 0, _ => []
  | f + 1, i => if i < l.length then (runSym l i, runCnt l i - (reachM (runSym l i)).1) :: runsGo l f (i + (runCnt l i).toNat) else []
def runsM (l : List Int) : List (Int × Int) := runsGo l (l.length + 1) 0
theorem reachM_bd (s : Int) : 1 ≤ (reachM s).1 ∧ (reachM s).1 ≤ 11 ∧ 0 ≤ (reachM s).2 ∧ (reachM s).2 ≤ 7 := by
  unfold reachM; split
  · decide
  · split
    · decide
    · split <;> decide
theorem runMost_bd (s : Int) : 1 ≤ runMost s ∧ runMost s ≤ 138 ∧ (reachM s).1 ≤ runMost s ∧ 1 ≤ (2 : Int) ^ (reachM s).2.toNat ∧ (2 : Int) ^ (reachM s).2.toNat ≤ 128 := by
  unfold runMost reachM
  split
  · decide
  · split
    · decide
    · split <;> decide
theorem runSym_bd {l : List Int} {i : Nat} (hi : i < l.length) (h : ∀ x ∈ l, 0 ≤ x ∧ x ≤ 15) : 0 ≤ runSym l i ∧ runSym l i ≤ 18 := by
  have := h l[i] (List.getElem_mem hi)
  unfold runSym
  rw [getD_get hi]
  split
  · omega
  · split
    · omega
    · split <;> omega
/-- the least reach of the symbol is there -/
theorem run_least {l : List Int} {i : Nat} (hi : i < l.length) (h : ∀ x ∈ l, 0 ≤ x ∧ x ≤ 15) : (reachM (runSym l i)).1 ≤ sameM l i := by
  have hb := h l[i] (List.getElem_mem hi)
  have hs := (sameM_bd hi).1
  unfold runSym
  rw [getD_get hi]
  split
  · rw [show (reachM 18).1 = 11 from rfl]; omega
  · split
    · rw [show (reachM 17).1 = 3 from rfl]; omega
    · split
      · rw [show (reachM 16).1 = 3 from rfl]; omega
      · have : (reachM l[i]).1 = 1 := by unfold reachM; rw [if_neg (by omega), if_neg (by omega), if_neg (by omega)]
        omega
theorem runCnt_pos {l : List Int} {i : Nat} (hi : i < l.length) : 1 ≤ runCnt l i := by
  have := (sameM_bd hi).1
  have := (runMost_bd (runSym l i)).1
  unfold runCnt
  omega
theorem runsGo_fuel (l : List Int) : ∀ (f f' i : Nat), l.length ≤ i + f → l.length ≤ i + f' → runsGo l f i = runsGo l f' i := by
  intro f
  induction f with
  | zero =>
    intro f' i h h'
    cases f' with
    | zero => rfl
    | succ f' => rw [runsGo, runsGo, if_neg (by omega)]
  | succ f ih =>
    intro f' i h h'
    cases f' with
    | zero => rw [runsGo, runsGo, if_neg (by omega)]
    | succ f' =>
      rw [runsGo, runsGo]
      split
      · rename_i hi
        have := runCnt_pos hi
        rw [ih f' _ (by omega) (by omega)]
      · rfl
theorem runs_spec (F : Frag) (v : Value) (l : List Int) (hv : Row F 1 v l.length (ints .i64 l)) (hl : l.length ≤ 1000000000) (h15 : ∀ x ∈ l, 0 ≤ x ∧ x ≤ 15) :
    Ctr Try.prog 106 [v] [F] [] (fun r M' => ∃ vr Fr, r = .tuple #[vr, .nilIface] ∧ M' = [Fr] ∧ OwnRow 166 2 Fr vr (runsM l).length (flat tokC (runsM l))) := by
  have hcf := containsFunc_spec F v l 142 _ hv (by omega) runs1_spec
  have hany : l.any (fun n => decide (n < 0 ∨ 15 < n)) = false := by
    rw [List.any_eq_false]
    intro x hx
    have := h15 x hx
    simp; omega
  rw [hany] at hcf
  obtain ⟨a1, c1, rfl⟩ := hv.len
  refine Ctr.intro Try.func106 (by kernel_rfl) rfl (by conv => lhs; whnf) rfl fun W => ?_
  refine Wpc.addNil ?_
  repeat' (first | (apply Wpl.callP; exact rfl; exact rfl; exact rfl; exact rfl; (exact hcf); (refine HasF.cons (by (exact HasF.r 0 rfl)) HasF.nil)) | (apply Wpc.seqK; intro K hK) | apply Wpc.region | apply Wpl.nil | (apply hK; clear hK K) | (apply Wpl.mv; exact rfl; (conv => lhs; whnf)) | (apply Wpl.asg; exact rfl; (conv => lhs; whnf)) | (apply Wpc.cond_false; exact rfl) | apply Wpc.block | apply Wpc.skip)
  refine Wpc.loop (ι := Nat × List (Int × Int) × Value × Frag) (fun i => i.1 ≤ l.length ∧ OwnRow 166 2 i.2.2.2 i.2.2.1 i.2.1.length (flat tokC i.2.1) ∧ i.2.1.length ≤ i.1 ∧ runsM l = i.2.1 ++ runsGo l (l.length + 1 - i.1) i.1)
    (fun i => [(0, .slice a1 l.length c1), (4, i.2.2.1), (5, .int .i64 i.1)]) (fun i => [i.2.2.2]) (fun i => l.length - i.1) (0, [], .slice none 0 0, []) ⟨by omega, OwnRow.nil _ _, Nat.le_refl _, rfl⟩ ⟨rfl, rfl, rfl, trivial⟩ (Sel.refl _) ?_
  rintro ⟨i, acc, va, Fa⟩ g ⟨hi, hva, hai, he⟩
  dsimp only at hi hva hai he ⊢
  repeat' (first | (apply Wpc.seqK; intro K hK) | apply Wpc.region | apply Wpl.nil | (apply hK; clear hK K) | (apply Wpl.mv; exact rfl; (conv => lhs; whnf)) | (apply Wpl.asg; exact rfl; (conv => lhs; whnf)) | (apply Wpc.cond_true; exact rfl) | (apply Wpc.cond_false; exact rfl) | apply Wpc.skip | apply Wpc.exit | apply Wpc.ret | (apply Wpl.lss; exact rfl; exact rfl; exact rfl; all_goals (intro h; try (exfalso; omega))) | (apply Wpl.len; exact rfl; exact rfl) | ((conv => whnf); clear hK K; apply hK; clear hK K))
  · have hil : i < l.length := by omega
    have hbl := h15 l[i] (List.getElem_mem _)
    have hsm := sameM_bd hil
    have hss := same_spec F _ l i hv hil (by omega)
    have hrl := run_least hil h15
    have hrs := runSym_bd hil h15
    have hgi := getD_get hil
    refine Wpc.block ?_
    repeat' (first | (apply Wpc.region_draw; kernel_rfl; kernel_rfl) | (apply Wpl.callP; exact rfl; exact rfl; exact rfl; exact rfl; (exact hss); (refine HasF.cons (by (exact HasF.r 0 rfl)) HasF.nil)) | (apply Wpc.seqK; intro K hK) | apply Wpl.nil | (apply hK; clear hK K) | (apply Wpl.mv; exact rfl; (conv => lhs; whnf)) | (apply Wpl.asg; exact rfl; (conv => lhs; whnf)) | (apply Wpl.idxN; exact rfl; exact rfl; exact rfl; exact rfl; assumption; (exact HasF.r 0 rfl); omega; intro _ _))
    refine Wpc.join (ι := Unit) (fun _ => True)
      (fun _ => [(0, .slice a1 l.length c1), (4, va), (5, .int .i64 i), (6, .int .i64 (runSym l i)), (7, .int .i64 (sameM l i))]) (fun _ => [Fa]) ?_ ?_
    · have hp : ∀ hm : ((i : Int) - 1).toNat < l.length, l[((i : Int) - 1).toNat]'hm = l[i - 1]?.getD 0 := fun hm => by
        rw [← getD_get hm]
        congr 2
        omega
      repeat' (first | (apply Wpc.seqK; intro K hK) | apply Wpc.region | apply Wpl.nil | (apply hK; clear hK K) | (apply Wpl.mv; exact rfl; (conv => lhs; whnf)) | (apply Wpl.asg; exact rfl; (conv => lhs; whnf)) | (apply Wpl.guard_run; exact rfl; exact rfl) | (apply Wpl.guard_skip; exact rfl; exact rfl; exact rfl) | (apply Wpl.pickT; exact rfl; exact rfl; (conv => lhs; whnf)) | (apply Wpl.pickF; exact rfl; exact rfl; (conv => lhs; whnf)) | (apply Wpc.cond_true; exact rfl) | (apply Wpc.cond_false; exact rfl) | apply Wpc.block | apply Wpc.skip | (apply Wpl.gtr; exact rfl; exact rfl; exact rfl; all_goals (intro h; try (exfalso; omega))) | (apply Wpl.geq; exact rfl; exact rfl; exact rfl; all_goals (intro h; try (exfalso; omega))) | (apply Wpl.eql; exact rfl; exact rfl; exact rfl; all_goals (intro h; try (exfalso; omega))) | (apply Wpl.sub; exact rfl; exact rfl; exact rfl; omega) | (apply Wpl.idxA; exact rfl; exact rfl; exact rfl; assumption; omega; omega; intro _ _ _) | (apply Wpl.ldP; exact rfl; exact rfl; assumption; (exact HasF.r 0 rfl)))
      all_goals refine ⟨(), trivial, ⟨rfl, rfl, rfl, congrArg (Value.int .i64) ?_, rfl, trivial⟩, Sel.refl _, fun _ h => h⟩
      all_goals unfold runSym
      all_goals rw [hgi]
      all_goals first | (have hq := hp (by omega); repeat' split) | repeat' split
      all_goals omega
    · rintro _ g _
      have hrb := reachM_bd (runSym l i)
      have hmb := runMost_bd (runSym l i)
      repeat' (first | (apply Wpl.callP; exact rfl; exact rfl; exact rfl; exact rfl; (exact reach_spec _); (exact HasF.nil)) | (apply Wpc.seqK; intro K hK) | apply Wpc.region | apply Wpl.nil | (apply hK; clear hK K) | (apply Wpl.mv; exact rfl; (conv => lhs; whnf)) | (apply Wpl.asg; exact rfl; (conv => lhs; whnf)) | (apply Wpl.extract; exact rfl; exact rfl; exact rfl))
      refine Wpl.shlV (w := 2 ^ (reachM (runSym l i)).2.toNat) rfl rfl rfl (by omega) (by rw [Int.one_mul]) (by omega) ?_
      repeat' (first | (apply Wpc.seqK; intro K hK) | apply Wpc.region | apply Wpl.nil | (apply hK; clear hK K) | (apply Wpl.mv; exact rfl; (conv => lhs; whnf)) | (apply Wpl.asg; exact rfl; (conv => lhs; whnf)) | (apply Wpl.add; exact rfl; exact rfl; exact rfl; omega) | (apply Wpl.sub; exact rfl; exact rfl; exact rfl; omega) | (apply Wpl.minI; exact rfl; exact rfl; exact rfl))
      have hrc : 1 ≤ runCnt l i ∧ runCnt l i ≤ sameM l i ∧ (reachM (runSym l i)).1 ≤ runCnt l i ∧ runCnt l i ≤ 138 := by
        have e : runCnt l i = min (sameM l i : Int) (runMost (runSym l i)) := rfl
        omega
      refine Wpl.build (cs := [.int .i64 (runSym l i), .int .i64 (runCnt l i - (reachM (runSym l i)).1)]) rfl rfl ?_
      refine Wpl.app1 0 rfl rfl hva rfl rfl (u := .agg #[.int .i64 (runSym l i), .int .i64 (runCnt l i - (reachM (runSym l i)).1)]) rfl (us := tokC (runSym l i, runCnt l i - (reachM (runSym l i)).1)) rfl rfl (by decide) rfl (one_cons rfl (one_cons rfl one_nil)) (by omega) (by unfold maxLen; omega) (fun p v' F' hv' => ?_)
      repeat' (first | apply Wpc.region | apply Wpl.nil | (apply hK; clear hK K) | (apply Wpl.mv; exact rfl; (conv => lhs; whnf)) | (apply Wpl.asg; exact rfl; (conv => lhs; whnf)) | (apply Wpl.add; exact rfl; exact rfl; exact rfl; omega))
      exact ⟨(i + (runCnt l i).toNat, acc ++ [(runSym l i, runCnt l i - (reachM (runSym l i)).1)], v', F'), ⟨by show i + (runCnt l i).toNat ≤ l.length; omega, hv'.cast (by simp) (by simp [flat]), by show (acc ++ [_]).length ≤ i + (runCnt l i).toNat; simp; omega, by
        rw [he, show l.length + 1 - i = (l.length - i) + 1 by omega, runsGo, if_pos hil, runsGo_fuel l (l.length - i) (l.length + 1 - (i + (runCnt l i).toNat)) _ (by omega) (by omega), List.append_assoc]
        rfl⟩, by show l.length - (i + (runCnt l i).toNat) < l.length - i; omega, ⟨rfl, rfl, congrArg (Value.int .i64) (by show (i : Int) + runCnt l i = _; simp; omega), trivial⟩, Sel.refl _, fun _ h => h⟩
  · have hil : i = l.length := by omega
    have est : runsM l = acc := by rw [he, hil, show l.length + 1 - l.length = 0 + 1 by omega, runsGo, if_neg (by omega), List.append_nil]
    exact ⟨[_, _], _, ⟨rfl, rfl, trivial⟩, Sel.refl _, fun _ h => h, va, Fa, rfl, rfl, by rw [est]; exact hva⟩
end Go.Proofs.Ytmfcgffdijnokaa
set_option maxRecDepth 100000
set_option maxHeartbeats 4000000
namespace Go.Proofs.Ytmfcgffdijnokaa
open Go.SL Go.RowKit
attribute [local irreducible] Wpl Wpc Wph
section
variable {q : Md} {C : Cx} {ops : Array Oper} {rest : List Oper} {Q : Exit → Env → List Frag → List Frag → Prop} {f : Env} {R M : List Frag}
theorem Wpc.region_heldS (n : Nat) {id : Nat} {l : List Oper} (hm : C.P.follows .mixedOrders = true) (hn : l.toArray.size = n) {ls : Array Bool} (hls : Array.replicate n false = ls) (h : Wph C l.toArray R M n ls Q f R M) :
    Wpc C (.region id l.toArray true) Q f R M := Wpc.region_held hm R M n hn ls hls h
theorem Wpc.region_tailS (n k : Nat) {id : Nat} {l : List Oper} (hm : C.P.follows .mixedOrders = true) (hn : l.toArray.size = k) {ls : Array Bool} (hls : Array.replicate k false = ls) (h : Wpt C n l.toArray R M k ls Q f R M) :
    Wpc C (.region id l.toArray true) Q f R M := Wpc.region_tail n R M k hm hn ls hls h
end
/-! merge.sound, cmp.Or, byWeight -/
theorem msound_spec (F : Frag) (v : Value) (l : List Int) (m : Int) (hv : Row F 1 v l.length (ints .i64 l)) (hl : l.length ≤ 1000000000) :
    PSpec Try.prog 139 [v, .int .i64 m] [F] (.bool (decide ((l.length : Int) ≤ m) && !l.any (fun n => decide (n < 0 ∨ 1099511627776 < n)))) := by
  have hcf := containsFunc_spec F v l 166 _ hv (by omega) sound1_spec
  obtain ⟨a1, c1, rfl⟩ := hv.len
  generalize ha : l.any (fun n => decide (n < 0 ∨ 1099511627776 < n)) = b at *
  by_cases hm : (l.length : Int) ≤ m
  · rw [decide_eq_true hm]
    refine Ctr.intro Try.func139 (by kernel_rfl) rfl (by conv => lhs; whnf) rfl fun W => ?_
    repeat' (first | (apply Wpl.callP; exact rfl; exact rfl; exact rfl; exact rfl; (exact hcf); (refine HasF.cons (by (exact HasF.r 0 rfl)) HasF.nil)) | (apply Wpc.seqK; intro K hK) | apply Wpc.region | apply Wpl.nil | (apply hK; clear hK K) | (apply Wpl.mv; exact rfl; (conv => lhs; whnf)) | (apply Wpl.asg; exact rfl; (conv => lhs; whnf)) | (apply Wpl.guard_run; exact rfl; exact rfl) | (apply Wpl.pickT; exact rfl; exact rfl; (conv => lhs; whnf)) | apply Wpc.ret | (apply Wpl.unNot; exact rfl; exact rfl) | (apply Wpl.leq; exact rfl; exact rfl; exact rfl; all_goals (intro h; try (exfalso; omega))) | (apply Wpl.len; exact rfl; exact rfl))
    exact ⟨[_], [], ⟨rfl, trivial⟩, Sel.nil _, fun _ h => h, rfl, rfl⟩
  · rw [decide_eq_false hm]
    refine Ctr.intro Try.func139 (by kernel_rfl) rfl (by conv => lhs; whnf) rfl fun W => ?_
    repeat' (first | (apply Wpc.seqK; intro K hK) | apply Wpc.region | apply Wpl.nil | (apply hK; clear hK K) | (apply Wpl.mv; exact rfl; (conv => lhs; whnf)) | (apply Wpl.asg; exact rfl; (conv => lhs; whnf)) | (apply Wpl.guard_skip; exact rfl; exact rfl; exact rfl) | (apply Wpl.pickF; exact rfl; exact rfl; (conv => lhs; whnf)) | apply Wpc.ret | (apply Wpl.leq; exact rfl; exact rfl; exact rfl; all_goals (intro h; try (exfalso; omega))) | (apply Wpl.len; exact rfl; exact rfl))
    exact ⟨[_], [], ⟨rfl, trivial⟩, Sel.nil _, fun _ h => h, rfl, rfl⟩
def orM (a b : Int) : Int := if a ≠ 0 then a else b
theorem or_spec (F : Frag) (v : Value) (a b : Int) (hv : Row F 1 v 2 (ints .i64 [a, b])) : PSpec Try.prog 177 [v] [F] (.int .i64 (orM a b)) := by
  obtain ⟨a1, c1, rfl⟩ := hv.len
  refine Ctr.intro Try.func177 (by kernel_rfl) rfl (by conv => lhs; whnf) rfl fun W => ?_
  repeat' (first | (apply Wpc.seqK; intro K hK) | apply Wpc.region | apply Wpl.nil | (apply hK; clear hK K) | (apply Wpl.mv; exact rfl; (conv => lhs; whnf)) | (apply Wpl.asg; exact rfl; (conv => lhs; whnf)) | apply Wpc.block | (apply Wpl.len; exact rfl; exact rfl))
  refine Wpc.loop (ι := Nat) (fun k => k ≤ 2 ∧ (1 ≤ k → a = 0) ∧ (2 ≤ k → b = 0))
    (fun k => [(0, .slice a1 2 c1), (3, .int .i64 0), (6, .slice a1 2 c1), (7, .int .i64 2), (8, .int .i64 k)]) (fun _ => []) (fun k => 2 - k) 0 ⟨by omega, by omega, by omega⟩ ⟨rfl, rfl, rfl, rfl, rfl, trivial⟩ (Sel.refl _) ?_
  rintro k g ⟨hk, h1, h2⟩
  rcases (show k = 0 ∨ k = 1 ∨ k = 2 by omega) with rfl | rfl | rfl
  all_goals have hlen : [a, b].length = 2 := rfl
  all_goals repeat' (first | (apply Wpc.seqK; intro K hK) | apply Wpc.region | apply Wpl.nil | (apply hK; clear hK K) | (apply Wpl.mv; exact rfl; (conv => lhs; whnf)) | (apply Wpl.asg; exact rfl; (conv => lhs; whnf)) | (apply Wpc.cond_true; exact rfl) | (apply Wpc.cond_false; exact rfl) | apply Wpc.block | apply Wpc.skip | apply Wpc.exit | apply Wpc.ret | (apply Wpl.lss; exact rfl; exact rfl; exact rfl; all_goals (intro h; try (exfalso; omega))) | (apply Wpl.neq; exact rfl; exact rfl; exact rfl; all_goals (intro h; try (exfalso; omega))) | (apply Wpl.add; exact rfl; exact rfl; exact rfl; omega) | (apply Wpl.idxN; exact rfl; exact rfl; exact rfl; exact rfl; assumption; (exact HasF.r 0 rfl); omega; intro _ _) | ((conv => whnf); clear hK K; apply hK; clear hK K))
  · have hne : a ≠ 0 := by assumption
    exact ⟨[_], [], ⟨rfl, trivial⟩, Sel.nil _, fun _ h => h, by rw [orM, if_pos hne]; rfl, rfl⟩
  · have hne : a = 0 := by assumption
    exact ⟨1, ⟨by omega, fun _ => hne, by omega⟩, by omega, ⟨rfl, rfl, rfl, rfl, rfl, trivial⟩, Sel.refl _, fun _ h => h⟩
  · exact ⟨[_], [], ⟨rfl, trivial⟩, Sel.nil _, fun _ h => h, by rw [orM, if_neg (by omega)]; rfl, rfl⟩
  · have hne : b = 0 := by assumption
    exact ⟨2, ⟨by omega, fun _ => h1 (by omega), fun _ => hne⟩, by omega, ⟨rfl, rfl, rfl, rfl, rfl, trivial⟩, Sel.refl _, fun _ h => h⟩
  · exact ⟨[_], [], ⟨rfl, trivial⟩, Sel.nil _, fun _ h => h, by have := h1 (by omega); have := h2 (by omega); subst a b; rfl, rfl⟩
def itemV (w : Int) (s : Value) : Value := .agg #[.int .i64 w, s]
theorem byWeight_spec (w1 w2 : Int) (p1 p2 : Option Addr) (n1 c1 n2 c2 : Nat) :
    PSpec Try.prog 168 [itemV w1 (.slice p1 n1 c1), itemV w2 (.slice p2 n2 c2)] [] (.int .i64 (orM (cmpM w1 w2) (cmpM n1 n2))) := by
  refine Ctr.intro Try.func168 (by kernel_rfl) rfl (by conv => lhs; whnf) rfl fun W => ?_
  unfold itemV
  repeat' (first | (apply Wpc.seqK; intro K hK) | apply Wpc.region | apply Wpl.nil | (apply hK; clear hK K) | (apply Wpl.asg; exact rfl; (conv => lhs; whnf)) | (apply Wpl.boxA; exact rfl; exact rfl; intro _))
  refine Wpc.region_heldS 15 (by kernel_rfl) rfl rfl ?_
  (refine Wph.take 0 rfl (by kernel_rfl) rfl (fun _ _ _ _ h => h) (fun _ h => h) (by first | exact Sel.refl _ | exact Sel.tail _ _ | exact Sel.nil _ | exact (Sel.tail _ _).trans (Sel.tail _ _) | exact (Sel.tail _ _).trans ((Sel.tail _ _).trans (Sel.tail _ _))) ?_; (repeat' (first | apply Wpl.nil | (apply Wpl.fldS; exact rfl; exact rfl; exact rfl; exact rfl)))); (refine Wph.take 1 rfl (by kernel_rfl) rfl (fun _ _ _ _ h => h) (fun _ h => h) (by first | exact Sel.refl _ | exact Sel.tail _ _ | exact Sel.nil _ | exact (Sel.tail _ _).trans (Sel.tail _ _) | exact (Sel.tail _ _).trans ((Sel.tail _ _).trans (Sel.tail _ _))) ?_; (repeat' (first | apply Wpl.nil | (apply Wpl.ld1x0; exact rfl; exact rfl; exact rfl; exact rfl)))); (refine Wph.take 2 rfl (by kernel_rfl) rfl (fun _ _ _ _ h => h) (fun _ h => h) (by first | exact Sel.refl _ | exact Sel.tail _ _ | exact Sel.nil _ | exact (Sel.tail _ _).trans (Sel.tail _ _) | exact (Sel.tail _ _).trans ((Sel.tail _ _).trans (Sel.tail _ _))) ?_; (repeat' (first | apply Wpl.nil | (apply Wpl.fldS; exact rfl; exact rfl; exact rfl; exact rfl)))); (refine Wph.take 3 rfl (by kernel_rfl) rfl (fun _ _ _ _ h => h) (fun _ h => h) (by first | exact Sel.refl _ | exact Sel.tail _ _ | exact Sel.nil _ | exact (Sel.tail _ _).trans (Sel.tail _ _) | exact (Sel.tail _ _).trans ((Sel.tail _ _).trans (Sel.tail _ _))) ?_; (repeat' (first | apply Wpl.nil | (apply Wpl.ld0x0; exact rfl; exact rfl; exact rfl; exact rfl)))); (refine Wph.take 5 rfl (by kernel_rfl) rfl (fun _ _ _ _ h => h) (fun _ h => h) (by first | exact Sel.refl _ | exact Sel.tail _ _ | exact Sel.nil _ | exact (Sel.tail _ _).trans (Sel.tail _ _) | exact (Sel.tail _ _).trans ((Sel.tail _ _).trans (Sel.tail _ _))) ?_; (repeat' (first | apply Wpl.nil | (apply Wpl.fldS; exact rfl; exact rfl; exact rfl; exact rfl)))); (refine Wph.take 6 rfl (by kernel_rfl) rfl (fun _ _ _ _ h => h) (fun _ h => h) (by first | exact Sel.refl _ | exact Sel.tail _ _ | exact Sel.nil _ | exact (Sel.tail _ _).trans (Sel.tail _ _) | exact (Sel.tail _ _).trans ((Sel.tail _ _).trans (Sel.tail _ _))) ?_; (repeat' (first | apply Wpl.nil | (apply Wpl.ld1x0; exact rfl; exact rfl; exact rfl; exact rfl)))); (refine Wph.take 7 rfl (by kernel_rfl) rfl (fun _ _ _ _ h => h) (fun _ h => h) (by first | exact Sel.refl _ | exact Sel.tail _ _ | exact Sel.nil _ | exact (Sel.tail _ _).trans (Sel.tail _ _) | exact (Sel.tail _ _).trans ((Sel.tail _ _).trans (Sel.tail _ _))) ?_; (repeat' (first | apply Wpl.nil | (apply Wpl.len; exact rfl; exact rfl)))); (refine Wph.take 8 rfl (by kernel_rfl) rfl (fun _ _ _ _ h => h) (fun _ h => h) (by first | exact Sel.refl _ | exact Sel.tail _ _ | exact Sel.nil _ | exact (Sel.tail _ _).trans (Sel.tail _ _) | exact (Sel.tail _ _).trans ((Sel.tail _ _).trans (Sel.tail _ _))) ?_; (repeat' (first | apply Wpl.nil | (apply Wpl.fldS; exact rfl; exact rfl; exact rfl; exact rfl)))); (refine Wph.take 9 rfl (by kernel_rfl) rfl (fun _ _ _ _ h => h) (fun _ h => h) (by first | exact Sel.refl _ | exact Sel.tail _ _ | exact Sel.nil _ | exact (Sel.tail _ _).trans (Sel.tail _ _) | exact (Sel.tail _ _).trans ((Sel.tail _ _).trans (Sel.tail _ _))) ?_; (repeat' (first | apply Wpl.nil | (apply Wpl.ld0x0; exact rfl; exact rfl; exact rfl; exact rfl)))); (refine Wph.take 10 rfl (by kernel_rfl) rfl (fun _ _ _ _ h => h) (fun _ h => h) (by first | exact Sel.refl _ | exact Sel.tail _ _ | exact Sel.nil _ | exact (Sel.tail _ _).trans (Sel.tail _ _) | exact (Sel.tail _ _).trans ((Sel.tail _ _).trans (Sel.tail _ _))) ?_; (repeat' (first | apply Wpl.nil | (apply Wpl.len; exact rfl; exact rfl)))); skip
  refine Wph.one 4 (by kernel_rfl) rfl rfl ?_
  repeat' (first | (apply Wpl.callP; exact rfl; exact rfl; exact rfl; exact rfl; (exact compare_spec _ _); (exact HasF.nil)) | apply Wpl.nil)
  refine ⟨fun _ h => h, Sel.refl _, ?_⟩
  refine Wph.one 11 (by kernel_rfl) rfl rfl ?_
  repeat' (first | (apply Wpl.callP; exact rfl; exact rfl; exact rfl; exact rfl; (exact compare_spec _ _); (exact HasF.nil)) | apply Wpl.nil)
  refine ⟨fun _ h => h, Sel.refl _, ?_⟩
  refine Wph.one 12 (by kernel_rfl) rfl rfl ?_
  refine Wpl.lit1 (cs := ints .i64 [cmpM w1 w2, cmpM n1 n2]) rfl (by decide) (by decide) rfl rfl (fun v F h => ?_)
  refine Wpl.nil ⟨fun _ h => h, Sel.tail _ _, ?_⟩
  have hor := or_spec F v _ _ h.row
  refine Wph.one 13 (by kernel_rfl) rfl rfl ?_
  repeat' (first | (apply Wpl.callP; exact rfl; exact rfl; exact rfl; exact rfl; (exact hor); (refine HasF.cons (by (exact HasF.m 0 rfl)) HasF.nil)) | apply Wpl.nil)
  refine ⟨fun _ h => h, Sel.tail _ _, ?_⟩
  (refine Wph.take 14 rfl (by kernel_rfl) rfl (fun _ _ _ _ h => h) (fun _ h => h) (by first | exact Sel.refl _ | exact Sel.tail _ _ | exact Sel.nil _ | exact (Sel.tail _ _).trans (Sel.tail _ _) | exact (Sel.tail _ _).trans ((Sel.tail _ _).trans (Sel.tail _ _))) ?_; (repeat' (first | apply Wpl.nil | (apply Wpl.asg; exact rfl; (conv => lhs; whnf))))); skip
  refine Wph.done (by kernel_rfl) ?_
  repeat' (first | (apply hK; clear hK K) | apply Wpc.ret)
  exact ⟨[_], [], ⟨rfl, trivial⟩, Sel.nil _, fun _ h => h, rfl, rfl⟩
end Go.Proofs.Ytmfcgffdijnokaa
