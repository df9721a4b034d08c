/- A list of deeds as it comes in: opened. No condition. -/
import Derived.Test.YthmicafabimfkaaWYD
import Derived.Test.YthmicafabimfkaaWXS4
namespace Go.Proofs.Ythmicafabimfkaa
open Go.RowKit Go.Proofs
open Go.ChangeShapes Go.WideShapes Go.Deep
set_option maxRecDepth 100000
abbrev LTc : TC := (.pair (.int .i64) (.pair (.int .i64) (.pair (.pair (.pair (.int .i64) (.int .i64)) (.pair (.pair (.int .i64) (.int .i64)) (.pair (.int .i64) (.int .i64)))) (.int .i64))))
abbrev PKc : TC := .pair (.int .i64) (.int .i64)
abbrev DDc : TC := .pair (.int .u8) (.pair LTc (.pair (.rf 1 7) (.pair (.rf 1 8) (.int .i64))))
/-- A deed as it lies there. -/
structure DE where
  (k : Int) (l : LTc.ty) (i1 : Info) (x1 : List Int) (i2 : Info) (x2 : List (Int × Int)) (n : Int)
def DE.v1 (y : DE) : Value := .slice y.i1.a y.x1.length y.i1.cap
def DE.v2 (y : DE) : Value := .slice y.i2.a y.x2.length y.i2.cap
def DE.vals (y : DE) : List Value := [.int .u8 y.k] ++ ((LTc.enc y.l).map scV ++ ([y.v1] ++ ([y.v2] ++ [.int .i64 y.n])))
structure DEok (W : World) (y : DE) : Prop where
  k : 0 ≤ y.k
  l : DenL [] (LTc.enc y.l) ((LTc.enc y.l).map scV)
  s1 : SlIn W (.int .i64) y.i1 y.x1
  s2 : SlIn W PKc y.i2 y.x2
theorem fcD : Try.prog.cellsOf 37 = 13 := by kernel_rfl
theorem fcD5 : Try.prog.cellsOf 5 = 1 := by kernel_rfl
theorem fcD33 : Try.prog.cellsOf 33 = 9 := by kernel_rfl
theorem fcD34 : Try.prog.cellsOf 34 = 1 := by kernel_rfl
theorem fcD35 : Try.prog.cellsOf 35 = 1 := by kernel_rfl
theorem fcD3 : Try.prog.cellsOf 3 = 1 := by kernel_rfl
section
variable {H : Type} {enc : TypeId × Value → H} {W : World}
theorem deed_in {fuel : Nat} {cs : List Value} {x : DataW H × List MemPlace} (h : DataW.trod enc Try.prog W 0 (fun _ => true) true fuel 37 cs = some x) : ∃ y : DE, cs = y.vals ∧ DEok W y := by
  obtain ⟨xs, n, _, _, hlen, hx, hg⟩ := DataW.trod_struct Try.underlying37 h
  rw [fcD] at hlen
  obtain ⟨z0, e0⟩ := someOf (i := 0) hx (by decide)
  obtain ⟨z1, e1⟩ := someOf (i := 1) hx (by decide)
  obtain ⟨z2, e2⟩ := someOf (i := 2) hx (by decide)
  obtain ⟨z3, e3⟩ := someOf (i := 3) hx (by decide)
  obtain ⟨z4, e4⟩ := someOf (i := 4) hx (by decide)
  have g0 := (hg 0 _ rfl).trans e0
  have g1 := (hg 1 _ rfl).trans e1
  have g2 := (hg 2 _ rfl).trans e2
  have g3 := (hg 3 _ rfl).trans e3
  have g4 := (hg 4 _ rfl).trans e4
  have g0 : DataW.trod enc Try.prog W 0 (fun _ => true) true n 5 ((cs.drop 0).take 1) = some z0 := by rw [← fcD5]; exact g0
  have g1 : DataW.trod enc Try.prog W 0 (fun _ => true) true n 33 ((cs.drop 1).take 9) = some z1 := by rw [← fcD33]; exact g1
  have g2 : DataW.trod enc Try.prog W 0 (fun _ => true) true n 34 ((cs.drop 10).take 1) = some z2 := by rw [← fcD34]; exact g2
  have g3 : DataW.trod enc Try.prog W 0 (fun _ => true) true n 35 ((cs.drop 11).take 1) = some z3 := by rw [← fcD35]; exact g3
  have g4 : DataW.trod enc Try.prog W 0 (fun _ => true) true n 3 ((cs.drop 12).take 1) = some z4 := by rw [← fcD3]; exact g4
  obtain ⟨y0, r0, f0⟩ := flat_part (d := 20) (τ := (.int .u8)) (by kernel_rfl) (by kernel_rfl) g0
  obtain ⟨y1, r1, f1⟩ := flat_part (d := 20) (τ := LTc) (by kernel_rfl) (by kernel_rfl) g1
  obtain ⟨i2, x2, q2, s2⟩ := sl_in (d := 20) (τ := (.int .i64)) Try.underlying34 (by kernel_rfl) (by kernel_rfl) (by kernel_rfl) (by decide) (TC.dflt (.int .i64)) g2
  obtain ⟨i3, x3, q3, s3⟩ := sl_in (d := 20) (τ := PKc) Try.underlying35 (by kernel_rfl) (by kernel_rfl) (by kernel_rfl) (by decide) (TC.dflt PKc) g3
  obtain ⟨y4, r4, f4⟩ := flat_part (d := 20) (τ := (.int .i64)) (by kernel_rfl) (by kernel_rfl) g4
  have q0 := denL_vals (fit_er f0) r0
  have q1 := denL_vals (fit_er f1) r1
  have q4 := denL_vals (fit_er f4) r4
  have q := parts [(0, 1), (1, 9), (10, 1), (11, 1), (12, 1)] (by decide) hlen
  simp only [List.map_cons, List.map_nil, List.flatten_cons, List.flatten_nil] at q
  rw [q0, q1, q2, q3, q4] at q
  rw [q1] at r1
  exact ⟨⟨y0, y1, i2, x2, i3, x3, y4⟩, q, f0.1, r1, s2, s3⟩
theorem de_len (y : DE) : y.vals.length = 13 := by
  simp only [DE.vals, List.length_append, List.length_map, TC.enc_len]
  rfl
/-- What the elements are, with numbers for the slices that they hold. -/
def dnum : Nat → List DE → List DDc.ty
  | _, [] => []
  | j, y :: ys => (y.k, (y.l, (j + 1, (j + 1, y.n)))) :: dnum (j + 1) ys
theorem dnum_len : ∀ (ys : List DE) (j : Nat), (dnum j ys).length = ys.length
  | [], _ => rfl
  | y :: ys, j => by simp [dnum, dnum_len ys]
theorem dnum_k {W : World} : ∀ (ys : List DE) (j : Nat), (∀ y ∈ ys, DEok W y) → ∀ d ∈ dnum j ys, 0 ≤ d.1
  | [], _, _, d, hd => by simp [dnum] at hd
  | y :: ys, j, h, d, hd => by
    rcases List.mem_cons.1 hd with rfl | hd
    · exact (h y (by simp)).k
    · exact dnum_k ys (j + 1) (fun z hz => h z (by simp [hz])) d hd
def i7 (ys : List DE) : Info := ⟨none, 0, none, .tuple ⟨.int .i64 7 :: ys.map DE.v1⟩⟩
def i8 (ys : List DE) : Info := ⟨none, 0, none, .tuple ⟨.int .i64 8 :: ys.map DE.v2⟩⟩
theorem i7_objs (ys : List DE) : (i7 ys).objs 7 = ys.map DE.v1 := rfl
theorem i8_objs (ys : List DE) : (i8 ys).objs 8 = ys.map DE.v2 := rfl
theorem i7_other (ys : List DE) {t : Nat} (h : t ≠ 7) : (i7 ys).objs t = [] := by
  show (if (7 : Int) = (t : Int) then ys.map DE.v1 else []) = []
  rw [if_neg (by omega)]
theorem i8_other (ys : List DE) {t : Nat} (h : t ≠ 8) : (i8 ys).objs t = [] := by
  show (if (8 : Int) = (t : Int) then ys.map DE.v2 else []) = []
  rw [if_neg (by omega)]
theorem dnum_den {ρ : List Info} {ys : List DE} {p q : Nat} (h7 : ρ[p]? = some (i7 ys)) (h8 : ρ[q]? = some (i8 ys)) : ∀ (zs : List DE) (j : Nat), (∀ (m : Nat) z, zs[m]? = some z → ys[j + m]? = some z) → (∀ z ∈ zs, DEok W z) → DenL ρ (flat DDc (dnum j zs)) (zs.flatMap DE.vals)
  | [], _, _, _ => rfl
  | z :: zs, j, hz, hok => by
    have ih := dnum_den h7 h8 zs (j + 1) (fun m x hx => by rw [show j + 1 + m = j + (m + 1) by omega]; exact hz (m + 1) x (by simpa using hx)) (fun x hx => hok x (by simp [hx]))
    have h0 : ys[j]? = some z := hz 0 z rfl
    have hk := hok z (by simp)
    show DenL ρ (DDc.enc (z.k, (z.l, (j + 1, (j + 1, z.n)))) ++ flat DDc (dnum (j + 1) zs)) (z.vals ++ zs.flatMap DE.vals)
    refine DenL.app ?_ ih
    show DenL ρ ([.sc (.int .u8 z.k)] ++ (LTc.enc z.l ++ ([.rf 1 7 (j + 1)] ++ ([.rf 1 8 (j + 1)] ++ [.sc (.int .i64 z.n)])))) z.vals
    refine DenL.app ⟨_, [], rfl, ⟨rfl, rfl⟩, rfl⟩ (DenL.app (hk.l.mono (pre_nil ρ)) (DenL.app ⟨_, [], rfl, ?_, rfl⟩ (DenL.app ⟨_, [], rfl, ?_, rfl⟩ ⟨_, [], rfl, ⟨rfl, rfl⟩, rfl⟩)))
    · exact .inr ⟨j, p, i7 ys, rfl, h7, by rw [i7_objs, List.getElem?_map, h0]; rfl, _, _, _, rfl⟩
    · exact .inr ⟨j, q, i8 ys, rfl, h8, by rw [i8_objs, List.getElem?_map, h0]; rfl, _, _, _, rfl⟩
theorem ob_in {ρ : List Info} {τ : TC} {i : Info} {xs : List τ.ty} (h : SlIn W τ i xs) : ObOk ρ W (.slice i.a xs.length i.cap) (.rr τ xs) := by
  obtain ⟨_, vs, h2, h3⟩ := h.root
  exact ⟨i.a, i.cap, rfl, h.le, h.big, vs, h2.mono (pre_nil ρ), h3⟩
theorem arr_in {ρ : List Info} {τ : TC} (t : Nat) {i : Info} {l : List (Value × List τ.ty)} (hi : i.objs t = l.map Prod.fst) (h : ∀ x ∈ l, ObOk ρ W x.1 (.rr τ x.2)) : RootOk ρ W i (.arr t τ (l.map Prod.snd)) := by
  show ArOk ρ W (i.objs t) _
  rw [hi]
  refine ⟨by simp [Root.obs], fun m v o hv ho => ?_, fun m m' v v' o o' b _ _ _ ho _ hb => ?_⟩
  · simp only [Root.obs, List.getElem?_map] at hv ho
    cases hx : l[m]? with
    | none => rw [hx] at hv; cases hv
    | some x =>
      rw [hx] at hv ho
      cases hv; cases ho
      exact h x (List.mem_of_getElem? hx)
  · simp only [Root.obs, List.getElem?_map] at ho
    cases hx : l[m]? with
    | none => rw [hx] at ho; cases ho
    | some x => rw [hx] at ho; cases ho; cases hb
/-- A list of deeds. -/
structure DsIn (W : World) (a : Option Addr) (cap : Nat) (ys : List DE) : Prop where
  ok : ∀ y ∈ ys, DEok W y
  sl : Sl 13 DE.vals W a cap ys
def iD (a : Option Addr) (cap : Nat) (ys : List DE) : Info := ⟨a, cap, some ys.length, undef⟩
theorem deeds_in {fuel : Nat} {cs : List Value} {x : DataW H × List MemPlace} (h : DataW.trod enc Try.prog W 0 (fun _ => true) true fuel 22 cs = some x) : ∃ (a : Option Addr) (cap : Nat) (ys : List DE), cs = [.slice a ys.length cap] ∧ DsIn W a cap ys := by
  obtain ⟨a, cap, ys, e1, e2, e3⟩ := fo_slice (f := DE.vals) (Pr := DEok W) ⟨0, LTc.dflt, nilI, [], nilI, [], 0⟩ Try.underlying22 fcD (by decide) de_len (fun n cs x h => deed_in h) h rfl
  exact ⟨a, cap, ys, e1, e3, e2⟩
theorem DsIn.den {ρ : List Info} {a : Option Addr} {cap : Nat} {ys : List DE} (h : DsIn W a cap ys) {id k : Nat} (hi : ρ[id]? = some (iD a cap ys)) : Den ρ (.sl id k 0 none none) (.slice a ys.length cap) := by
  refine ⟨iD a cap ys, a, cap, ys.length, hi, rfl, h.sl.le, h.sl.big, fun h0 => ?_, ⟨_, rfl, by rw [Nat.sub_zero]⟩, ⟨_, rfl, by omega⟩, by rw [Nat.sub_zero]; rfl, rfl, fun _ => rfl, fun _ => ?_⟩
  · obtain ⟨b, o, ha, _⟩ := h.sl.cells h0
    exact ⟨b, o, ha⟩
  · rw [Nat.zero_mul]
    show a = a.map (·.add 0)
    cases a with
    | none => rfl
    | some a => show some a = some (a.add 0); unfold Addr.add; rw [if_pos rfl]
theorem DsIn.root {ρ : List Info} {a : Option Addr} {cap : Nat} {ys : List DE} (h : DsIn W a cap ys) {p q : Nat} (h7 : ρ[p]? = some (i7 ys)) (h8 : ρ[q]? = some (i8 ys)) : RootOk ρ W (iD a cap ys) (.ro DDc (dnum 0 ys)) := by
  refine ⟨by rw [dnum_len]; rfl, ys.flatMap DE.vals, dnum_den h7 h8 ys 0 (fun m z hz => by rw [Nat.zero_add]; exact hz) h.ok, fun h0 => ?_⟩
  rw [dnum_len] at h0
  obtain ⟨b, off, ha, hb, hcl⟩ := h.sl.cells h0
  refine ⟨b, off, ha, hb, fun j v hv => ?_⟩
  obtain ⟨i, hi, j', e4, e5⟩ := flatv_get (f := DE.vals) de_len ys j v hv
  rw [e4, ← Nat.add_assoc]
  exact hcl i hi j' v e5
theorem DsIn.arr7 {ρ : List Info} {a : Option Addr} {cap : Nat} {ys : List DE} (h : DsIn W a cap ys) : RootOk ρ W (i7 ys) (.arr 7 (.int .i64) (ys.map DE.x1)) := by
  have := arr_in (ρ := ρ) (W := W) (τ := .int .i64) 7 (i := i7 ys) (l := ys.map (fun y => (y.v1, y.x1))) (by rw [i7_objs, List.map_map]; rfl) (fun x hx => by
    obtain ⟨y, hy, rfl⟩ := List.mem_map.1 hx
    exact ob_in (h.ok y hy).s1)
  rw [List.map_map] at this
  exact this
theorem DsIn.arr8 {ρ : List Info} {a : Option Addr} {cap : Nat} {ys : List DE} (h : DsIn W a cap ys) : RootOk ρ W (i8 ys) (.arr 8 PKc (ys.map DE.x2)) := by
  have := arr_in (ρ := ρ) (W := W) (τ := PKc) 8 (i := i8 ys) (l := ys.map (fun y => (y.v2, y.x2))) (by rw [i8_objs, List.map_map]; rfl) (fun x hx => by
    obtain ⟨y, hy, rfl⟩ := List.mem_map.1 hx
    exact ob_in (h.ok y hy).s2)
  rw [List.map_map] at this
  exact this
end
end Go.Proofs.Ythmicafabimfkaa
