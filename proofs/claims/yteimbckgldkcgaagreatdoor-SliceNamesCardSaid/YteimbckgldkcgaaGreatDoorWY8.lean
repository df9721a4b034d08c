/- A range over a function, run on data: a round. No condition. -/
import Derived.Test.YteimbckgldkcgaaGreatDoorWY7
import Derived.Test.YteimbckgldkcgaaGreatDoorWY5
namespace Go.Proofs.YteimbckgldkcgaaGreatDoor
noncomputable section
open Go.RowKit
/-! Blocks that hold neither cells nor a map -/
def noCells : Obj → Bool
  | .cells .. => false
  | .map .. => false
  | _ => true
section
variable {P : Program} {N n : Nat} {D : List Deferred} {S F : List Nat} {W0 B : World} {ρ ρ' : List Info} {K : Slo} {h h' : List Root} {w w' : World} {a : Act}
theorem RootOk.putObj {l : Nat} {o o0 : Obj} (hl : w.heap[l]? = some o0) (h0 : noCells o0 = true) {i : Info} {r : Root} (hr : RootOk ρ w i r) : RootOk ρ (w.putObj l o) i r := by
  cases r with
  | dead => trivial
  | blk cs T =>
    obtain ⟨h1, b, vs, h2, h3, h4⟩ := hr
    refine ⟨h1, b, vs, h2, h3, ?_⟩
    rw [World.putObj_heap_other (fun e => by subst e; rw [hl] at h4; cases h4; cases h0)]
    exact h4
  | rows T τ xs =>
    obtain ⟨h1, h2, vs, h3, h4, h5, h6, h7⟩ := hr
    refine ⟨h1, h2, vs, h3, h4, h5, h6, ?_⟩
    rcases h7 with h7 | ⟨g, o', cur, h8, h9, h10⟩
    · exact .inl ⟨h7.1, fun b hb => by rw [World.putObj_size]; exact h7.2 b hb⟩
    · refine .inr ⟨g, o', cur, h8, ?_, h10⟩
      rw [World.putObj_heap_other (fun e => by subst e; rw [hl] at h9; cases h9; cases h0)]
      exact h9
  | ro τ xs =>
    obtain ⟨h1, vs, h2, h3⟩ := hr
    refine ⟨h1, vs, h2, fun hn => ?_⟩
    obtain ⟨b, o', h4, h5, h6⟩ := h3 hn
    refine ⟨b, o', h4, by rw [World.putObj_size]; exact h5, fun j v hv => ?_⟩
    have h7 := h6 j v hv
    unfold World.cell? at h7 ⊢
    have hne : b ≠ l := fun e => by
      subst e
      dsimp only at h7
      rw [hl] at h7
      cases o0 <;> first | (cases h0; done) | (simp at h7; done)
    dsimp only at h7 ⊢
    rw [World.putObj_heap_other hne]
    exact h7
  | clo f x c => exact hr
  | mp k cl es =>
    obtain ⟨r, ents, c, h1, h2, h3, h4⟩ := hr
    refine ⟨r, ents, c, h1, h2, ?_, h4⟩
    rw [World.putObj_heap_other (fun e => by subst e; rw [hl] at h3; cases h3; cases h0)]
    exact h3
theorem HOk.putObj (hh : HOk S F W0 ρ h w) {l : Nat} {o o0 : Obj} (hl : w.heap[l]? = some o0) (h0 : noCells o0 = true) (hB : Ex [l] W0 B) (hs : B.heap.size = W0.heap.size) (hBl : B.heap[l]? = some o) : HOk S F B ρ h (w.putObj l o) := by
  have hG : ∀ b ∈ gBlk, b ≠ l := fun b hb e => by
    obtain ⟨c, T, f, hc⟩ := gOk_cells hh.layW hb
    rw [e, hl] at hc
    cases hc
    cases h0
  have hlt := lt_of_block hl
  refine ⟨⟨hh.ext.os.trans hB.os.symm, hh.ext.tape.trans hB.tape.symm, hh.ext.output.trans hB.output.symm, by rw [World.putObj_size, hs]; exact hh.ext.size, fun k hk hks => ?_⟩, hh.len, fun id r i a b => (hh.ok id r i a b).putObj hl h0, hh.sep, fun p r i b x y z => by rw [hs]; exact hh.mine p r i b x y z, fun p r i b x y z => by rw [hs]; exact hh.near p r i b x y z, gOk_mono (fun b hb => hB.block b (hh.out b hb).1 (by simp only [List.mem_singleton]; exact hG b hb)) hh.lay, fun b hb => ⟨by rw [hs]; exact (hh.out b hb).1, (hh.out b hb).2⟩⟩
  by_cases e : k = l
  · subst e; rw [World.putObj_heap_same hlt, hBl]
  · rw [World.putObj_heap_other e, hh.ext.block k (by omega) hks, hB.block k (by omega) (by simpa using e)]
theorem HOk.base (hh : HOk S F B ρ h w) (hE : Ext W0 B) (hl : gOk W0) (ho : ∀ b ∈ gBlk, b < W0.heap.size ∧ b ∉ S) : HOk S F W0 ρ h w :=
  ⟨(hE.ex S).trans hh.ext, hh.len, hh.ok, hh.sep, fun p r i b x y z => (hh.mine p r i b x y z).imp (fun h => Nat.le_trans hE.size h) id, fun p r i b x y z => (hh.near p r i b x y z).imp (fun h => Nat.le_trans hE.size h) id, hl, ho⟩
theorem HOk.kept (hh : HOk S F W0 ρ h w) {l : Nat} {o : Obj} (hl : W0.heap[l]? = some o) (hs : l ∉ S) : w.heap[l]? = some o := hh.ext.heap hs hl
theorem KOk.setIf (hK : KOk N D ρ K a) {t : Nat} {p : PV} {v : Value} (hv : DenP ρ p v) {K' : Slo} (hs : setP N K (some t) p = some K') : KOk N D ρ K' { a with tmps := a.tmps.setIfInBounds t v } := put_P hK hv hs
/-- Parameters are set. -/
def setAll (N : Nat) : List (Nat × PV) → Slo → Option Slo
  | [], K => some K
  | (t, p) :: l, K => match setP N K (some t) p with
    | some K' => setAll N l K'
    | none => none
theorem setAll_ok : ∀ {ps : List Nat} {args : List PV} {vs : List Value} {K K' : Slo} {a : Act}, setAll N (ps.zip args) K = some K' → DenArgs ρ args vs → ps.length = args.length → KOk N D ρ K a → KOk N D ρ K' { a with tmps := (ps.zip vs).foldl (fun t (p : Nat × Value) => t.setIfInBounds p.1 p.2) a.tmps }
  | [], args, vs, K, K', a, hs, ha, _, hK => by
    simp only [List.zip_nil_left, setAll, Option.some.injEq] at hs
    subst hs
    simpa using hK
  | t :: ps, [], _, _, _, _, _, _, hl, _ => by simp at hl
  | t :: ps, p :: args, vs, K, K', a, hs, ⟨v, r, e, h1, h2⟩, hl, hK => by
    subst e
    simp only [List.zip_cons_cons, setAll] at hs
    split at hs
    · rename_i K1 hK1
      have := setAll_ok (ps := ps) hs h2 (by simpa using hl) (hK.setIf h1 hK1)
      simpa using this
    · cases hs
end
/-! A round -/
def rnd (P : Program) (call : (β : Type) → CallF β) (N : Nat) (ps : List Nat) (as bd : Code) (Kc : Slo) (β : Type) (args : List PV) (h : List Root) (k : Option XT → List Root → Option β) : Option β :=
  bif Nat.beq ps.length args.length then match setAll N (ps.zip args) Kc with
    | some K => evR P call N 300 as β K h (fun e K' h' => match e with
      | .normal => evR P call N 300 bd β K' h' (fun e2 _ h2 => match e2 with
        | .normal => k none h2
        | e2 => k (some e2) h2)
      | _ => none)
    | none => none
  else none
def XT.code : XT → Code
  | .normal => .skip
  | .exit id => .exit id
  | .ret => .ret
/-- The record of a loop at rest: no jump, or one. -/
def recOf (r : Loop) (p : Option XT) : Loop := { r with state := if p.isNone then .ready else .done, pending := p.map XT.code }
/-- A world with such a record. -/
structure Recs (l : Nat) (r : Loop) (B : Option XT → World) : Prop where
  ready : r.state = .ready
  pend : r.pending = none
  at' : ∀ p, (B p).heap[l]? = some (.loop (recOf r p))
  ex : ∀ p q, Ex [l] (B p) (B q)
  size : ∀ p q, (B p).heap.size = (B q).heap.size
theorem recOf_none {r : Loop} (h1 : r.state = .ready) (h2 : r.pending = none) : recOf r none = r := by
  obtain ⟨⟩ := r
  simp only at h1 h2
  subst h1; subst h2
  rfl
section
variable {P : Program} {n : Nat} {S F : List Nat}
theorem rnd_ok {call : (β : Type) → CallF β} (hcall : ∀ β, CallOk P (call β)) (hmx : P.follows .mixedOrders = true) {N l : Nat} {r : Loop} {B : Option XT → World} (hR : Recs l r B) (hS : l ∉ S) {ps : List Nat} {as bd : Code} {Kc : Slo} (hps : r.params = ps.toArray) (has : r.assign = as) (hbd : r.body = bd) {ρ0 : List Info} (hKc : KOk N [] ρ0 Kc { tmps := r.tmps, defers := [] })
    {β : Type} {args : List PV} {h : List Root} {k : Option XT → List Root → Option β} {x : β} (hr : rnd P call N ps as bd Kc β args h k = some x) {ρ : List Info} (hρ : Pre ρ0 ρ) {vs : List Value} (hvs : DenArgs ρ args vs) {W : World} (hh : HOk S F (B none) ρ h W) :
    YieldAt Fence.wide n P l vs.toArray W (fun e w' => ∃ p ρ' h', e = .returned (.bool p.isNone) ∧ Pre ρ ρ' ∧ HOk S F (B p) ρ' h' w' ∧ k p h' = some x) := by
  unfold rnd at hr
  cases hb : Nat.beq ps.length args.length with
  | false => rw [hb] at hr; cases hr
  | true =>
    rw [hb] at hr
    simp only [cond_true] at hr
    have hlen := Nat.eq_of_beq_eq_true hb
    split at hr
    · rename_i K1 hK1
      have hl : W.heap[l]? = some (.loop r) := by
        have := hh.kept (hR.at' none) hS
        rwa [recOf_none hR.ready hR.pend] at this
      have hvl : vs.length = args.length := hvs.len
      have hy := run_yield (P := P) (args := vs.toArray) hl (by rw [hps]; simpa using (hvl.trans hlen.symm))
      rw [has, hbd] at hy
      refine ⟨_, _, as, bd, hy, roundIn_of_wpIn trivial ?_⟩
      have hK2 : KOk N [] ρ K1 { tmps := (r.params.zip vs.toArray).foldl (fun t (p : Nat × Value) => t.setIfInBounds p.1 p.2) r.tmps, defers := [] } := by
        have := setAll_ok hK1 hvs hlen (hKc.mono hρ)
        rw [hps]
        simpa using this
      refine evR_ok (ro := some l) (n := n) hcall hmx 300 as β K1 h _ x hr S F (B none) ρ _ W hK2 hh _ (fun e ρ' K' h' a' w' hp he hK' hh' => ?_)
      cases e with
      | normal =>
        dsimp only at he
        have hl1 : w'.heap[l]? = some (.loop r) := by
          have := hh'.kept (hR.at' none) hS
          rwa [recOf_none hR.ready hR.pend] at this
        refine ⟨_, run_beginRound hl1 hR.ready, ?_⟩
        -- the world in which the record is busy
        have hBn := hR.at' none
        rw [recOf_none hR.ready hR.pend] at hBn
        have hBlt := lt_of_block hBn
        have hh2 : HOk S F ((B none).putObj l (.loop { r with state := .busy })) ρ' h' (w'.putObj l (.loop { r with state := .busy })) :=
          hh'.putObj hl1 rfl ⟨rfl, rfl, rfl, by simp, fun k _ hk => World.putObj_heap_other (by simpa using hk)⟩ (by simp) (World.putObj_heap_same hBlt)
        refine evR_ok (ro := some l) (n := n) hcall hmx 300 bd β K' h' _ x he S F _ ρ' a' _ hK' hh2 _ (fun e2 ρ2 K2 h2 a2 w2 hp2 he2 _ hh3 => ?_)
        have hl3 : w2.heap[l]? = some (.loop { r with state := .busy }) := hh3.kept (World.putObj_heap_same hBlt) hS
        have fin : ∀ p : Option XT, HOk S F (B p) ρ2 h2 (w2.putObj l (.loop (recOf r p))) := fun p =>
          hh3.putObj hl3 rfl (by
            have hx := hR.ex none p
            refine ⟨hx.os, hx.tape, hx.output, by rw [World.putObj_size]; exact hx.size, fun k hk hkl => ?_⟩
            rw [World.putObj_heap_other (by simpa using hkl)]
            exact hx.block k (by simpa using hk) hkl) (by rw [World.putObj_size]; exact hR.size p none) (hR.at' p)
        cases e2 with
        | normal =>
          have hend := run_endRound (P := P) none hl3
          refine ⟨_, _, hend, none, ρ2, h2, rfl, hp.trans hp2, ?_, he2⟩
          have := fin none
          simpa [recOf] using this
        | exit id =>
          have hend := run_endRound (P := P) (some (.exit id)) hl3
          refine ⟨_, _, hend, some (.exit id), ρ2, h2, rfl, hp.trans hp2, ?_, he2⟩
          have := fin (some (.exit id))
          simpa [recOf, XT.code] using this
        | ret =>
          have hend := run_endRound (P := P) (some .ret) hl3
          refine ⟨_, _, hend, some .ret, ρ2, h2, rfl, hp.trans hp2, ?_, he2⟩
          have := fin (some .ret)
          simpa [recOf, XT.code] using this
      | exit id => cases he
      | ret => cases he
    · cases hr
end
end
end Go.Proofs.YteimbckgldkcgaaGreatDoor
