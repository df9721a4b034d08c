/- Functions with loops and ranges over functions, also within loops, run on data. No condition. -/
import Derived.Test.YteimbckgldkcgaaGreatDoorWYH
namespace Go.Proofs.YteimbckgldkcgaaGreatDoor
noncomputable section
open Go.RowKit
inductive AW where
  | an (a : An)
  | two (a b : AW)
  | one (a : AW)
  | rf (R : RgA)
  | join (o : Outs) (a : AW)
  | loop (S : Sch) (o : Outs) (M : S.ty → Option (OutTy o))
def AW.l : AW → AW
  | .an a => .an a.l
  | .two a _ => a
  | .one a => a
  | _ => .an .no
def AW.r : AW → AW
  | .an a => .an a.r
  | .two _ b => b
  | _ => .an .no
def evW (P : Program) (A : Plans) (Fu f : Nat) (call : (β : Type) → CallF β) (m N : Nat) : Nat → AW → Code → (β : Type) → Slo → List Root → Kont β → Option β
  | 0, _, _, _, _, _, _ => none
  | d + 1, an, c, β, K, h, k => match an with
    | .an a => evA P Fu (plOf A f) call m N 300 a c β K h k
    | .join o a => ob (evW P A Fu f call m N d a c (OutTy o) K h (decOut m o)) (fun x => outK k o x)
    | .loop S o M => match c with
      | .loop _ => match S.dec m K h with
        | some s => ob (M s) (fun x => outK k o x)
        | none => none
      | _ => none
    | .rf R => match c with
      | .rangeFunc g ps as bd => match R.SC.dec m K h with
        | some xc => match evalP (slEnc same R.SC.slots (R.SC.a xc)) g with
          | some (.c (.hv j)) => rfEv P (plOf A) call N R.ysp R.LS R.oo (R.LM xc) R.an R.gf R.na ps.toList as bd β j (slEnc same R.SC.slots (R.SC.a xc)) (rsEnc same R.SC.roots (R.SC.b xc)) (fun p h' => k (p.getD .normal) (slEnc same R.SC.slots (R.SC.a xc)) h')
          | _ => none
        | none => none
      | _ => none
    | an => match c with
      | .seq x y => evW P A Fu f call m N d an.l x β K h (fun e K' h' => match e with
        | .normal => evW P A Fu f call m N d an.r y β K' h' k
        | e => k e K' h')
      | .cond c x y => match evalP K c with
        | some (.c (.sc (.bool b))) => bif b then evW P A Fu f call m N d an.l x β K h k else evW P A Fu f call m N d an.r y β K h k
        | _ => none
      | .block id x => evW P A Fu f call m N d an.l x β K h (fun e K' h' => match e with
        | .exit id' => bif Nat.beq id' id then k .normal K' h' else k (.exit id') K' h'
        | e => k e K' h')
      | _ => none
section
variable {P : Program} {m N : Nat} {S0 F0 S F : List Nat} {W0 B : World} {ρ ρ' : List Info} {h h' : List Root} {w w' : World}
/-- Back in the frame around, whatever is known since. -/
theorem HOk.back2 (hh : HOk S0 F0 W0 ρ h w) (hE : Ext w B) (hc : HOk (blocksOf own ρ h (List.range h.length)) (blocksOf foot ρ h (List.range h.length)) B ρ' h' w') : HOk S0 F0 W0 ρ' h' w' := by
  have hsz : W0.heap.size ≤ B.heap.size := Nat.le_trans hh.ext.size hE.size
  have ho : ∀ b ∈ blocksOf own ρ h (List.range h.length), W0.heap.size ≤ b ∨ b ∈ S0 := fun b hb => by
    obtain ⟨p, _, r, i, hr, hi, e⟩ := blocksOf_mem.1 hb
    exact hh.mine p r i b hr hi e
  have hf : ∀ b ∈ blocksOf foot ρ h (List.range h.length), W0.heap.size ≤ b ∨ b ∈ S0 ∨ b ∈ F0 := fun b hb => by
    obtain ⟨p, _, r, i, hr, hi, e⟩ := blocksOf_mem.1 hb
    exact hh.near p r i b hr hi e
  refine ⟨?_, hc.len, hc.ok, hc.sep, fun p r i b hr hi e => ?_, fun p r i b hr hi e => ?_, hh.lay, hh.out⟩
  · have h1 : Ex S0 W0 B := hh.ext.trans (hE.ex S0)
    exact h1.trans_fresh hc.ext (fun b hb => (ho b hb).symm)
  · rcases hc.mine p r i b hr hi e with h1 | h1
    · exact .inl (Nat.le_trans hsz h1)
    · exact ho b h1
  · rcases hc.near p r i b hr hi e with h1 | h1 | h1
    · exact .inl (Nat.le_trans hsz h1)
    · rcases ho b h1 with h2 | h2
      · exact .inl h2
      · exact .inr (.inl h2)
    · exact hf b h1
/-- Memory as data behind ranges over functions, whose marks lie in the frame. -/
def StM (S0 F0 : List Nat) (W0 : World) : List Nat → List Info → List Root → World → Prop
  | [], ρ, h, W => HOk S0 F0 W0 ρ h W
  | l :: Ls, ρ, h, W => ∃ ρ1 h1 w1 B, StM S0 F0 W0 Ls ρ1 h1 w1 ∧ l = w1.heap.size ∧ Ext w1 B ∧ B.heap[l]? = some (.deferred (some [])) ∧ HOk (blocksOf own ρ1 h1 (List.range h1.length)) (blocksOf foot ρ1 h1 (List.range h1.length)) B ρ h W
theorem stM_top : ∀ {Ls : List Nat} {ρ : List Info} {h : List Root} {W : World}, StM S0 F0 W0 Ls ρ h W → ∃ S F W1, HOk S F W1 ρ h W ∧ ∀ ρ' h' W', HOk S F W1 ρ' h' W' → StM S0 F0 W0 Ls ρ' h' W'
  | [], ρ, h, W, hs => ⟨S0, F0, W0, hs, fun _ _ _ h => h⟩
  | l :: Ls, ρ, h, W, ⟨ρ1, h1, w1, B, e1, e2, e3, e4, e5⟩ => ⟨_, _, B, e5, fun _ _ _ h => ⟨ρ1, h1, w1, B, e1, e2, e3, e4, h⟩⟩
theorem stM_ok : ∀ {Ls : List Nat} {ρ : List Info} {h : List Root} {W : World}, StM S0 F0 W0 Ls ρ h W → HOk S0 F0 W0 ρ h W
  | [], ρ, h, W, hs => hs
  | l :: Ls, ρ, h, W, ⟨ρ1, h1, w1, B, e1, e2, e3, e4, e5⟩ => (stM_ok e1).back2 e3 e5
theorem leavesM {fn : Func} {tmps : Array Value} {R : Ending → World → Prop} : ∀ {Ls : List Nat} {ρ : List Info} {h : List Root} {W : World}, StM S0 F0 W0 Ls ρ h W → (∀ W', HOk S0 F0 W0 ρ h W' → LeavesInM (RFo none) 6 P fn tmps R [] .returning W') →
    LeavesInM (RFo none) 6 P fn tmps R (Ls.map mark) .returning W
  | [], ρ, h, W, hs, hR => hR W hs
  | l :: Ls, ρ, h, W, ⟨ρ1, h1, w1, B, e1, e2, e3, e4, e5⟩, hR => by
    have hS : l ∉ blocksOf own ρ1 h1 (List.range h1.length) := fun hm => by
      obtain ⟨S, F, W1, q1, _⟩ := stM_top e1
      have := own_lt q1 hm
      omega
    have hk := e5.kept e4 hS
    have hBl := lt_of_block e4
    have hh5 : HOk (blocksOf own ρ1 h1 (List.range h1.length)) (blocksOf foot ρ1 h1 (List.range h1.length)) (B.putObj l (.deferred none)) ρ h (W.putObj l (.deferred none)) :=
      e5.putObj hk rfl ⟨rfl, rfl, rfl, by simp, fun k _ hk => World.putObj_heap_other (by simpa using hk)⟩ (by simp) (World.putObj_heap_same hBl)
    have hE5 : Ext w1 (B.putObj l (.deferred none)) := by
      refine ⟨e3.os, e3.tape, e3.output, by simp; exact e3.size, fun k hk _ => ?_⟩
      rw [World.putObj_heap_other (by omega), e3.block k hk (by simp)]
    have h6 : StM S0 F0 W0 Ls ρ h (W.putObj l (.deferred none)) := by
      obtain ⟨S, F, W1, q1, q2⟩ := stM_top e1
      exact q2 _ _ _ (q1.back2 hE5 hh5)
    exact ⟨by simp, .inl ⟨l, _, rfl, run_takeDeferred hk, leavesM h6 hR⟩⟩
def LoopSemW (P : Program) (m N : Nat) (x : Code) (S : Sch) (o : Outs) (M : S.ty → Option (OutTy o)) : Prop :=
  ∀ (s : S.ty) (y : OutTy o), M s = some y → ∀ (S' F : List Nat) (W0 : World) (Ls : List Nat) (ι : List Info) (a : Act) (w : World), KOk N (Ls.map mark) ι (slEnc same S.slots (S.a s)) a → StM S' F W0 Ls ι (rsEnc same S.roots (S.b s)) w → ∀ Q : Exit → Act → World → Prop,
    (∀ (Ls' : List Nat) (ι' : List Info) (a' : Act) (w' : World), PreM m ι ι' → KOk N (Ls'.map mark) ι' (outSt o y).2.1 a' → StM S' F W0 Ls' ι' (outSt o y).2.2 w' → Q (outSt o y).1.out a' w') → ∃ n, Code.roundsIn (RFo none) 6 P x Q n a w
def AwOk (P : Program) (call : (β : Type) → CallF β) (m N : Nat) : AW → Code → Prop
  | .an a, c => AnOk P m N a c
  | .two a b, c => match c with
    | .seq x y => AwOk P call m N a x ∧ AwOk P call m N b y
    | .cond _ x y => AwOk P call m N a x ∧ AwOk P call m N b y
    | .block _ x => AwOk P call m N a x
    | _ => True
  | .one a, c => match c with
    | .seq x _ => AwOk P call m N a x
    | .cond _ x _ => AwOk P call m N a x
    | .block _ x => AwOk P call m N a x
    | _ => True
  | .rf R, c => LfOk P call N R c
  | .join _ a, c => AwOk P call m N a c
  | .loop S o M, c => match c with
    | .loop x => LoopSemW P m N x S o M
    | _ => True
variable {call : (β : Type) → CallF β}
theorem AwOk.seq {an : AW} {x y : Code} (h : AwOk P call m N an (.seq x y)) : AwOk P call m N an.l x ∧ AwOk P call m N an.r y := by
  cases an with
  | an a => exact AnOk.seq h
  | two a b => exact h
  | one a => exact ⟨h, trivial⟩
  | rf R => exact ⟨trivial, trivial⟩
  | join o a => exact ⟨trivial, trivial⟩
  | loop S o M => exact ⟨trivial, trivial⟩
theorem AwOk.cond {an : AW} {c : Operand} {x y : Code} (h : AwOk P call m N an (.cond c x y)) : AwOk P call m N an.l x ∧ AwOk P call m N an.r y := by
  cases an with
  | an a => exact AnOk.cond h
  | two a b => exact h
  | one a => exact ⟨h, trivial⟩
  | rf R => exact ⟨trivial, trivial⟩
  | join o a => exact ⟨trivial, trivial⟩
  | loop S o M => exact ⟨trivial, trivial⟩
theorem AwOk.block {an : AW} {id : Nat} {x : Code} (h : AwOk P call m N an (.block id x)) : AwOk P call m N an.l x := by
  cases an with
  | an a => exact AnOk.block h
  | two a b => exact h
  | one a => exact h
  | rf R => trivial
  | join o a => trivial
  | loop S o M => trivial
def AwP (P : Program) (call : (β : Type) → CallF β) (m N : Nat) (c : Code) : AW → List Nat → Prop
  | .an a, p => AnP P m N c a p
  | .two a b, p => AwP P call m N c a (p ++ [0]) ∧ AwP P call m N c b (p ++ [1])
  | .one a, p => AwP P call m N c a (p ++ [0])
  | .rf R, p => LfOk P call N R (subAt c p)
  | .join _ a, p => AwP P call m N c a p
  | .loop S o M, p => LoopSemW P m N (subAt c (p ++ [0])) S o M
theorem awP_ok {c : Code} : ∀ {an : AW} {p : List Nat}, AwP P call m N c an p → AwOk P call m N an (subAt c p)
  | .an a, p, h => anP_ok h
  | .two a b, p, h => by
    have h1 := awP_ok (an := a) h.1
    have h2 := awP_ok (an := b) h.2
    rw [subAt_app] at h1 h2
    cases hc : subAt c p <;> rw [hc] at h1 h2 <;> first | exact ⟨h1, h2⟩ | exact h1 | trivial
  | .one a, p, h => by
    have h1 := awP_ok (an := a) (p := p ++ [0]) h
    rw [subAt_app] at h1
    cases hc : subAt c p <;> rw [hc] at h1 <;> first | exact h1 | trivial
  | .rf R, p, h => h
  | .join o a, p, h => awP_ok (an := a) h
  | .loop S o M, p, h => by
    have h1 : LoopSemW P m N (subAt c (p ++ [0])) S o M := h
    rw [subAt_app] at h1
    cases hc : subAt c p <;> rw [hc] at h1 <;> first | exact h1 | trivial
theorem evW_ok (hcall : ∀ β, CallOk P (call β)) (hmx : P.follows .mixedOrders = true) {A : Plans} (hA : PlansOk P A) {Fu f : Nat} : ∀ (d : Nat) (an : AW) (c : Code), AwOk P call m N an c → regsOk (plOf A f) c = true → ∀ (β : Type) (K : Slo) (h : List Root) (k : Kont β) (x : β), evW P A Fu f call m N d an c β K h k = some x →
    ∀ (Ls : List Nat) (ρ : List Info) (a : Act) (W : World), KOk N (Ls.map mark) ρ K a → StM S0 F0 W0 Ls ρ h W → ∀ Q : Exit → Act → World → Prop,
    (∀ (e : XT) (Ls' : List Nat) (ρ' : List Info) (K' : Slo) (h' : List Root) (a' : Act) (W' : World), PreM m ρ ρ' → k e K' h' = some x → KOk N (Ls'.map mark) ρ' K' a' → StM S0 F0 W0 Ls' ρ' h' W' → Q e.out a' W') → c.wpIn (RFo none) 6 P Q a W
  | 0, _, _, _, _, _, _, _, _, _, hr => by cases hr
  | d + 1, an, c, hAn, hreg, β, K, h, k, x, hr => fun Ls ρ a W hK hst Q hn => by
    have plain : (match (generalizing := false) c with
      | .seq x y => evW P A Fu f call m N d an.l x β K h (fun e K' h' => match e with
        | .normal => evW P A Fu f call m N d an.r y β K' h' k
        | e => k e K' h')
      | .cond c x y => match evalP K c with
        | some (.c (.sc (.bool b))) => bif b then evW P A Fu f call m N d an.l x β K h k else evW P A Fu f call m N d an.r y β K h k
        | _ => none
      | .block id x => evW P A Fu f call m N d an.l x β K h (fun e K' h' => match e with
        | .exit id' => bif Nat.beq id' id then k .normal K' h' else k (.exit id') K' h'
        | e => k e K' h')
      | _ => none) = some x → c.wpIn (RFo none) 6 P Q a W := by
      intro hr
      cases c with
      | seq u v =>
        simp only [regsOk, Bool.and_eq_true] at hreg
        obtain ⟨hA1, hA2⟩ := hAn.seq
        refine wpIn_seq (evW_ok hcall hmx hA d an.l u hA1 hreg.1 β K h _ x hr Ls ρ a W hK hst _ (fun e Ls' ρ' K' h' a' W' hp he hK' hst' => ?_))
        cases e with
        | normal => exact evW_ok hcall hmx hA d an.r v hA2 hreg.2 β K' h' k x he Ls' ρ' a' W' hK' hst' Q (fun e L2 ρ2 K2 h2 a2 w2 hp2 => hn e L2 ρ2 K2 h2 a2 w2 (hp.trans hp2))
        | exit id => exact hn _ Ls' ρ' K' h' a' W' hp he hK' hst'
        | ret => exact hn _ Ls' ρ' K' h' a' W' hp he hK' hst'
      | cond c u v =>
        simp only [regsOk, Bool.and_eq_true] at hreg
        obtain ⟨hA1, hA2⟩ := hAn.cond
        dsimp only at hr
        split at hr
        · rename_i b hc
          have hb : a.eval c = .bool b := (evalP_ok hK hc).1
          cases b with
          | true => exact wpIn_cond_true hb (evW_ok hcall hmx hA d an.l u hA1 hreg.1 β K h k x hr Ls ρ a W hK hst Q hn)
          | false => exact wpIn_cond_false hb (evW_ok hcall hmx hA d an.r v hA2 hreg.2 β K h k x hr Ls ρ a W hK hst Q hn)
        · cases hr
      | block id u =>
        refine wpIn_block (evW_ok hcall hmx hA d an.l u hAn.block hreg β K h _ x hr Ls ρ a W hK hst _ (fun e Ls' ρ' K' h' a' W' hp he hK' hst' => ?_))
        cases e with
        | normal => exact hn .normal Ls' ρ' K' h' a' W' hp he hK' hst'
        | exit id' =>
          show Exit.inBlock id Q (.exit id') a' W'
          dsimp only at he
          cases hb : Nat.beq id' id with
          | true =>
            rw [hb] at he
            have := Nat.eq_of_beq_eq_true hb
            subst this
            show (if id' = id' then Q .normal a' W' else Q (.exit id') a' W')
            rw [if_pos rfl]
            exact hn .normal Ls' ρ' K' h' a' W' hp he hK' hst'
          | false =>
            rw [hb] at he
            have hne := Nat.ne_of_beq_eq_false hb
            show (if id' = id then Q .normal a' W' else Q (.exit id') a' W')
            rw [if_neg hne]
            exact hn (.exit id') Ls' ρ' K' h' a' W' hp he hK' hst'
        | ret => exact hn .ret Ls' ρ' K' h' a' W' hp he hK' hst'
      | _ => cases hr
    obtain ⟨S, F, W1, hh, hre⟩ := stM_top hst
    cases an with
    | an an =>
      simp only [evW] at hr
      exact wpIn_wide.2 (evA_ok (D := Ls.map mark) hcall hmx Fu (plOf A f) 300 an c hAn hreg β K h k x hr S F W1 ρ a W hK hh Q (fun e ρ' K' h' a' w' hp he hK' hh' => hn e Ls ρ' K' h' a' w' hp he hK' (hre _ _ _ hh')))
    | two u v =>
      simp only [evW] at hr
      exact plain hr
    | one u =>
      simp only [evW] at hr
      exact plain hr
    | join o u =>
      simp only [evW] at hr
      obtain ⟨y, hy, hk⟩ := ob_inv hr
      rw [outK_eq] at hk
      refine evW_ok hcall hmx hA d u c hAn hreg (OutTy o) K h (decOut m o) y hy Ls ρ a W hK hst Q (fun e Ls' ρ' K' h' a' W' hp he hK' hst' => ?_)
      obtain ⟨S2, F2, W2, hh2, hre2⟩ := stM_top hst'
      obtain ⟨h1, ι, h2, h3, h4⟩ := decOut_ok he hK' hh2
      rw [← h1]
      exact hn _ Ls' ι _ _ a' W' (hp.trans h2) hk h3 (hre2 _ _ _ h4)
    | loop T o M =>
      cases c with
      | loop u =>
        simp only [evW] at hr
        split at hr
        · rename_i s hs
          obtain ⟨y, hy, hk⟩ := ob_inv hr
          rw [outK_eq] at hk
          obtain ⟨ι, h2, h3, h4⟩ := Sch.dec_ok hs hK hh
          obtain ⟨n, h5⟩ := hAn s y hy S0 F0 W0 Ls ι a W h3 (hre _ _ _ h4) Q (fun Ls' ι' a' w' hp hK' hst' => hn _ Ls' ι' _ _ a' w' (h2.trans hp) hk hK' hst')
          exact wpIn_loop_rounds n h5
        · cases hr
      | _ => cases hr
    | rf R =>
      cases c with
      | rangeFunc g ps as bd =>
        simp only [evW] at hr
        split at hr
        · rename_i xc hxc
          split at hr
          · rename_i j hj
            obtain ⟨ι, h2, h3, h4⟩ := Sch.dec_ok hxc hK hh
            have hL2 : LfOk P call N R (.rangeFunc g ps as bd) := hAn
            have := range_ok (N := N) (na := R.na) (gop := g) (ps := ps.toList) (as := as) (bd := bd) hcall hmx hA (hL2 xc) hr h3 h4 hj (Q := Q) (fun p ρ' h' B w' a' e1 e2 e3 e4 e5 e6 =>
              hn _ (W.heap.size :: Ls) ρ' _ h' a' w' (h2.trans e1.m) e2 e6 ⟨ι, _, W, B, hre _ _ _ h4, rfl, e3, e4, e5⟩)
            simpa using this
          · cases hr
        · cases hr
      | _ => cases hr
/-- A loop with ranges over functions, by its round. -/
theorem loopW_ok (hcall : ∀ β, CallOk P (call β)) (hmx : P.follows .mixedOrders = true) {A : Plans} (hA : PlansOk P A) {Fu f : Nat} {an : AW} {x : Code} (hAn : AwOk P call m N an x) (hreg : regsOk (plOf A f) x = true) {S : Sch} {o : Outs} {M : Nat → S.ty → Option (OutTy o)} (h0 : ∀ s, M 0 s = none)
    (hs : ∀ (n : Nat) (s : S.ty), M (n + 1) s = evW P A Fu f call m N 300 an x (OutTy o) (slEnc same S.slots (S.a s)) (rsEnc same S.roots (S.b s)) (fun e K h => match e with
      | .normal => ob (S.dec m K h) (fun s' => M n s')
      | e => decOut m o e K h)) : ∀ n, LoopSemW P m N x S o (M n) := by
  have main : ∀ (n : Nat) (s : S.ty) (y : OutTy o), M n s = some y → ∀ (S' F : List Nat) (W0 : World) (Ls : List Nat) (ι : List Info) (a : Act) (w : World), KOk N (Ls.map mark) ι (slEnc same S.slots (S.a s)) a → StM S' F W0 Ls ι (rsEnc same S.roots (S.b s)) w → ∀ Q : Exit → Act → World → Prop,
    (∀ (Ls' : List Nat) (ι' : List Info) (a' : Act) (w' : World), PreM m ι ι' → KOk N (Ls'.map mark) ι' (outSt o y).2.1 a' → StM S' F W0 Ls' ι' (outSt o y).2.2 w' → Q (outSt o y).1.out a' w') → Code.roundsIn (RFo none) 6 P x Q n a w := by
    intro n
    induction n with
    | zero => intro s y hy; rw [h0] at hy; cases hy
    | succ n ih =>
      intro s y hy S' F W0 Ls ι a w hK hst Q hn
      rw [hs] at hy
      refine evW_ok hcall hmx hA 300 an x hAn hreg (OutTy o) _ _ _ y hy Ls ι a w hK hst _ (fun e Ls' ρ' K' h' a' w' hp he hK' hst' => ?_)
      obtain ⟨S2, F2, W2, hh2, hre2⟩ := stM_top hst'
      cases e with
      | normal =>
        obtain ⟨s', h1, h2⟩ := ob_inv he
        obtain ⟨ι', h3, h4, h5⟩ := Sch.dec_ok h1 hK' hh2
        exact ih s' y h2 S' F W0 Ls' ι' a' w' h4 (hre2 _ _ _ h5) Q (fun L2 ι2 a2 w2 hp2 => hn L2 ι2 a2 w2 (hp.trans (h3.trans hp2)))
      | exit id =>
        obtain ⟨h1, ι', h2, h3, h4⟩ := decOut_ok he hK' hh2
        have := hn Ls' ι' a' w' (hp.trans h2) h3 (hre2 _ _ _ h4)
        rw [h1] at this
        exact this
      | ret =>
        obtain ⟨h1, ι', h2, h3, h4⟩ := decOut_ok he hK' hh2
        have := hn Ls' ι' a' w' (hp.trans h2) h3 (hre2 _ _ _ h4)
        rw [h1] at this
        exact this
  exact fun n s y hy S' F W0 Ls ι a w hK hst Q hn => ⟨n, main n s y hy S' F W0 Ls ι a w hK hst Q hn⟩
/-- The body of a function, run on data. -/
def fnEvW (P : Program) (A : Plans) (Fu : Nat) (call : (β : Type) → CallF β) (nargs : Nat) (an : AW) (f : Nat) (In : Sch) (Out : FSch) (s : In.ty) : Option Out.ty :=
  match P.funcs[f]? with
  | some fn => match fn.body with
    | some c => evW P A Fu f call In.roots.length (nargs + (fn.ntmps - nargs)) 300 an c Out.ty (slEnc same In.slots (In.a s)) (rsEnc same In.roots (In.b s)) (fun e K' h' => match e with
      | .exit _ => none
      | _ => match retP P K' h' fn.results.toList with
        | some v => Out.dec In.roots.length v h'
        | none => none)
    | none => none
  | none => none
theorem fnW_ok (hcall : ∀ β, CallOk P (call β)) (hmx : P.follows .mixedOrders = true) {A : Plans} (hA : PlansOk P A) {Fu nargs f : Nat} {an : AW} {In : Sch} {Out : FSch} {spec : In.ty → Option Out.ty}
    (hreg : regsOk (plOf A f) (bodyOf P f) = true) (hAn : AwOk P call In.roots.length (tmpsOf P f nargs) an (bodyOf P f)) (hs : ∀ s, spec s = fnEvW P A Fu call nargs an f In Out s) : FnSem P f nargs In Out spec := by
  intro s t hst S F W0 ι w vs hlen hden hh hcl
  rw [hs] at hst
  unfold fnEvW at hst
  split at hst
  · rename_i fn hfn
    split at hst
    · rename_i c hc
      have hb : bodyOf P f = c := by simp [bodyOf, hfn, hc]
      have ht : tmpsOf P f nargs = nargs + (fn.ntmps - nargs) := by simp [tmpsOf, hfn]
      rw [hb] at hreg hAn
      rw [ht] at hAn
      have hsz : vs.toArray.size = nargs := by simpa using hlen
      refine callsIn_wide.1 (callsIn_of_wp_marks (n := 6) hfn hc trivial ?_)
      refine evW_ok (S0 := S) (F0 := F) (W0 := W0) hcall hmx hA 300 an c hAn hreg Out.ty _ _ _ t hst [] ι _ w ⟨by simp [hsz], rfl, fun q p hp => ?_⟩ hh _ (fun e Ls ρ' K' h' a' w' hp he hK' hst' => ?_)
      · obtain ⟨v, h3, h4⟩ := hden q p hp
        refine ⟨v, h3, ?_⟩
        have hlt := (List.getElem?_eq_some_iff.1 h4).1
        show (vs.toArray ++ Array.replicate (fn.ntmps - vs.toArray.size) undef)[q]? = some v
        rw [Array.getElem?_append_left (by simpa using hlt)]
        simpa using h4
      · have fin : (match retP P K' h' fn.results.toList with
            | some v => Out.dec In.roots.length v h'
            | none => none) = some t → LeavesInM (RFo none) 6 P fn a'.tmps (fun e w' => ∃ ι' u, e = .returned u ∧ PreM In.roots.length ι ι' ∧ DenP ι' (Out.res.enc same (Out.a t)) u ∧ HOk S F W0 ι' (rsEnc same Out.roots (Out.b t)) w' ∧ In.roots.length ≤ Out.roots.length) a'.defers .returning w' := by
          intro hm2
          split at hm2
          · rename_i v hv
            rw [hK'.2.1]
            refine leavesM hst' (fun W' hW' => ?_)
            obtain ⟨u, q1, q2⟩ := retP_ok hK' hW' hv
            obtain ⟨h3, ι', h4, h5, h6⟩ := FSch.dec_ok hm2 q1 hW'
            exact ⟨u, q2, ι', u, rfl, hp.trans h4, h5, h6, h3⟩
          · cases hm2
        cases e with
        | normal => exact fin he
        | exit id => cases he
        | ret => exact fin he
    · cases hst
  · cases hst
end
end
end Go.Proofs.YteimbckgldkcgaaGreatDoor
