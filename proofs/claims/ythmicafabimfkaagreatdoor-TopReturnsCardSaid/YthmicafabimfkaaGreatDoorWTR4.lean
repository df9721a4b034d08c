/- TopReturns: pieces of a store, and how they are drawn. No condition. -/
import Derived.Test.YthmicafabimfkaaGreatDoorWXC11
import Derived.Test.YthmicafabimfkaaGreatDoorWMH6d
import Derived.Test.YthmicafabimfkaaGreatDoorWLT2d
import Derived.Test.YthmicafabimfkaaGreatDoorWV7r

namespace Go.Proofs.YthmicafabimfkaaGreatDoor
namespace TR
open Go.RowKit
set_option maxRecDepth 100000
abbrev BT := Int × (Int × Int)
def okb (x : BT) : Prop := (0 <= x.1 /\ x.1 <= 255) /\ (0 <= x.2.1 /\ x.2.1 <= 65535) /\ (0 <= x.2.2 /\ x.2.2 <= 255)
def cn (x : BT) : Int := 1 + x.1
def ms (x : BT) : Int := 1 + x.2.1
def tk (x : BT) : Int := 1 + Int.tmod x.2.2 (1 + x.1)
theorem tk_r {x : BT} (h : okb x) : 1 <= tk x /\ tk x <= cn x := by
 obtain ⟨h1, _, h3⟩ := h;have a1 := Int.tmod_nonneg (1 + x.1) h3.1;have a2 := Int.tmod_lt_of_pos x.2.2 (show (0 : Int) < 1 + x.1 by omega);unfold tk cn;omega
abbrev zQ : QB := ((0, 0), ((0, 0), (0, 0)))
def lt (x : BT) : QL := (cn x, (ms x, (zQ, 0)))
theorem lt_ok {x : BT} (h : okb x) : okL (lt x) = true := by
 obtain ⟨h1, h2, _⟩ := h;unfold lt okL qLot cn ms;rw [decide_eq_true (show 1 + x.1 >= (0 : Int) by omega), decide_eq_true (show 1 + x.1 <= (1000 : Int) by omega), decide_eq_true (show 1 + x.2.1 >= (1 : Int) by omega), decide_eq_true (show 1 + x.2.1 <= (1000000 : Int) by omega), show ((1 + x.1) == (0 : Int)) = false from beq_eq_false_iff_ne.2 (by omega)];rfl
def xDO (l : List BT) : List (QL × List Int) := l.map (fun x => (lt x, []))
def pk : Nat -> List BT -> List (Int × Int)
 | _, [] => []
 | i, x :: l => ((i : Int) + 1, tk x) :: pk (i + 1) l
theorem xSg : ∀ (l : List BT) (i : Nat) (x : BT), pk i (l ++ x :: []) = pk i l ++ (((i + l.length : Nat) : Int) + 1, tk x) :: []
 | [], i, x => rfl
 | y :: l, i, x => by
  show ((i : Int) + 1, tk y) :: pk (i + 1) (l ++ x :: []) = ((i : Int) + 1, tk y) :: (pk (i + 1) l ++ _);rw [xSg l (i + 1) x, show i + 1 + l.length = i + (y :: l).length by rw [List.length_cons]; omega]
theorem pk_len : ∀ (l : List BT) (i : Nat), (pk i l).length = l.length
 | [], _ => rfl
 | x :: l, i => by rw [pk, List.length_cons, pk_len l, List.length_cons]
def par (l : List BT) : List Int := (pk 0 l).map Prod.fst
theorem par_app (l : List BT) (x : BT) : par (l ++ x :: []) = par l ++ ((l.length : Int) + 1) :: [] := by
 unfold par;rw [xSg, List.map_append, Nat.zero_add]; rfl
theorem xSj (l : List BT) : (par l).length = l.length := by rw [par, List.length_map, pk_len]
theorem xSf : ∀ (l : List BT) (i : Nat) (y : Int), y ∈ (pk i l).map Prod.fst -> (i : Int) + 1 <= y /\ y <= (i : Int) + (l.length : Int)
 | [], _, _, h => by cases h
 | x :: l, i, y, h => by
  rw [pk, List.map_cons, List.mem_cons] at h;rw [List.length_cons];rcases h with e | h
  ·change y = (i : Int) + 1 at e;omega
  ·have := xSf l (i + 1) y h;omega
theorem pk_srt : ∀ (l : List BT) (i : Nat), ((pk i l).map Prod.fst).Pairwise (· < ·)
 | [], _ => List.Pairwise.nil
 | x :: l, i => by
  rw [pk, List.map_cons];refine List.pairwise_cons.2 ⟨fun y hy => ?_, pk_srt l (i + 1)⟩;have := xSf l (i + 1) y hy;show (i : Int) + 1 < y;omega
def xHe : List BT -> Int
 | [] => 0
 | x :: l => cn x * ms x + xHe l
def drM : List BT -> Int
 | [] => 0
 | x :: l => tk x * ms x + drM l
theorem xQb : ∀ (l : List BT) (x : BT), xHe (l ++ x :: []) = xHe l + cn x * ms x
 | [], x => by simp [xHe]
 | y :: l, x => by
  have ih := xQb l x;simp only [List.cons_append, xHe, ih];omega
theorem xTL : ∀ (l : List BT) (x : BT), drM (l ++ x :: []) = drM l + tk x * ms x
 | [], x => by simp [drM]
 | y :: l, x => by
  have ih := xTL l x;simp only [List.cons_append, drM, ih];omega
theorem one_r {x : BT} (h : okb x) : (1 <= cn x * ms x /\ cn x * ms x <= 16777216) /\ (1 <= tk x * ms x /\ tk x * ms x <= cn x * ms x) := by
 obtain ⟨t1, t2⟩ := tk_r h;obtain ⟨h1, h2, _⟩ := h;have c1 : 1 <= cn x /\ cn x <= 256 := by unfold cn; omega
 have m1 : 1 <= ms x /\ ms x <= 65536 := by unfold ms; omega
 generalize cn x = c at *;generalize ms x = m at *;generalize tk x = t at *;have a1 : c * m <= 256 * m := Int.mul_le_mul_of_nonneg_right c1.2 (by omega);have a2 : t * m <= c * m := Int.mul_le_mul_of_nonneg_right t2 (by omega);have a3 : 1 * m <= t * m := Int.mul_le_mul_of_nonneg_right t1 (by omega);omega
theorem sum_r : ∀ (l : List BT), (∀ x ∈ l, okb x) -> (0 <= xHe l /\ xHe l <= 16777216 * (l.length : Int)) /\ ((l.length : Int) <= drM l /\ drM l <= xHe l)
 | [], _ => by simp [xHe, drM]
 | x :: l, h => by
  have ih := sum_r l (fun y hy => h y (List.mem_cons_of_mem _ hy));have h1 := one_r (h x (List.mem_cons_self ..));simp only [xHe, drM, List.length_cons];omega
theorem xVR (l : List BT) (x : BT) : xDO (l ++ x :: []) = xDO l ++ [(lt x, [])] := by rw [xDO, List.map_append]; rfl
theorem xEu (l : List BT) : (xDO l).length = l.length := List.length_map ..
theorem xVS (l : List BT) (q : Int) : xA1 (xDO l) q = [] := by
 unfold xA1 xDO;rw [List.getElem?_map];cases l[q.toNat - 1]? <;> rfl
theorem xSM (pre : List BT) (x : BT) (rest : List BT) : xAw (xDO (pre ++ x :: rest)) ((pre.length : Int) + 1) = lt x := by
 unfold xAw;rw [show ((pre.length : Int) + 1).toNat - 1 = pre.length by omega];simp [nth, xDO]
theorem xVQ (l : List BT) (h : ∀ x ∈ l, okb x) : Cnt (xDO l) := by
 intro e he;obtain ⟨x, hx, rfl⟩ := List.mem_map.1 he;exact xSr (lt_ok (h x hx))
theorem dr_ok (l : List BT) (hk : ∀ x ∈ l, okb x) : ∀ (rest pre : List BT) (seen : List Int), l = pre ++ rest -> (∀ y ∈ seen, y <= (pre.length : Int)) -> qdr (xDO l) seen (pk pre.length rest) = 0
 | [], _, _, _, _ => rfl
 | x :: rest, pre, seen, e, hs => by
  have hx := tk_r (hk x (by rw [e]; simp));have hl : l.length = pre.length + (rest.length + 1) := by rw [e]; simp
  have ih := dr_ok l hk rest (pre ++ x :: []) (xLj ((pre.length : Int) + 1) seen) (by rw [e, List.append_assoc]; rfl) (fun y hy => by
   rw [List.length_append, List.length_cons, List.length_nil];rcases (xDC _ _ _).1 hy with h | h
   ·omega
   ·have := hs y h; omega)
  rw [List.length_append, List.length_cons, List.length_nil, Nat.zero_add] at ih;rw [pk, qdr];dsimp only;rw [xAU.2 (show (1 : Int) <= (pre.length : Int) + 1 /\ (pre.length : Int) + 1 <= ((xDO l).length : Int) by rw [xEu]; omega), decide_eq_false (show ¬ ((pre.length : Int) + 1 ∈ seen) from fun h => by have := hs _ h; omega), decide_eq_false (show ¬ tk x < 1 by omega), ih];rw [show xAw (xDO l) ((pre.length : Int) + 1) = lt x by rw [e]; exact xSM pre x rest, decide_eq_false (show ¬ tk x > (lt x).1 by show ¬ tk x > cn x; omega)];rfl
theorem xLE (l : List BT) : ∀ (rest pre : List BT) (a : Int), l = pre ++ rest -> xBB (xDO l) (a, (0, (0, (0, (0, (0, 0)))))) (pk pre.length rest) = (a + drM rest, (0, (0, (0, (0, (0, 0))))))
 | [], pre, a, _ => by
  show (a, _) = (a + 0, _);rw [Int.add_zero]
 | x :: rest, pre, a, e => by
  have ih := xLE l rest (pre ++ x :: []) (a + tk x * ms x) (by rw [e, List.append_assoc]; rfl);rw [List.length_append, List.length_cons, List.length_nil, Nat.zero_add] at ih;show xBB (xDO l) (a7 (a, _) (m7 (tk x) (xAw (xDO l) ((pre.length : Int) + 1)))) (pk (pre.length + 1) rest) = _;rw [show xAw (xDO l) ((pre.length : Int) + 1) = lt x by rw [e]; exact xSM pre x rest];have e2 : a7 (a, (0, (0, (0, (0, (0, 0)))))) (m7 (tk x) (lt x)) = (a + tk x * ms x, (0, (0, (0, (0, (0, 0)))))) := by
   simp [a7, m7, lt]
  rw [e2, ih, drM, Int.add_assoc]
theorem xOK : ∀ l : List BT, tot (xDO l) = (xHe l, (0, (0, (0, (0, (0, 0))))))
 | [] => rfl
 | x :: l => by
  show a7 (m7 (lt x).1 (lt x)) (tot (xDO l)) = _;rw [xOK l];simp [a7, m7, lt, xHe]
theorem xL2 : ∀ (ps : List (Int × Int)) (es : List (QL × List Int)) (seen : List Int) (q : Int), qdr es seen ps = 0 -> xA1 (xDZ es ps) q = xA1 es q
 | [], _, _, _, _ => rfl
 | p :: ps, es, seen, q, h => by
  obtain ⟨hp, _, _, _, h5⟩ := xKL h;have ih := xL2 ps (xBW es p) (xLj p.1 seen) q (xHs hp ps _ ((xDC _ _ _).2 (.inl rfl)) h5);show xA1 (xDZ (xBW es p) ps) q = _;rw [ih, xVa hp]
/-- A list of numbers that are there, each once, is taken. -/
theorem xMp (es : List (QL × List Int)) : ∀ (ps pre acc : List Int), ps.Nodup -> (∀ y ∈ ps, xDD y es.length = true) -> (∀ y ∈ ps, y ∉ pre) -> ∃ s, xRa es pre acc ps = .inr s
 | [], _, acc, _, _, _ => ⟨acc, rfl⟩
 | p :: ps, pre, acc, hn, h1, h2 => by
  obtain ⟨n1, n2⟩ := List.nodup_cons.1 hn;rw [xRa, h1 p (List.mem_cons_self ..), decide_eq_false (h2 p (List.mem_cons_self ..))];refine xMp es ps _ _ n2 (fun y hy => h1 y (List.mem_cons_of_mem _ hy)) (fun y hy => ?_);have hp := h2 y (List.mem_cons_of_mem _ hy);intro hq
  first
   | (rcases List.mem_cons.1 hq with e | e
      ·exact n1 (e ▸ hy)
      ·exact hp e)
   | (rcases List.mem_append.1 hq with e | e
      ·exact hp e
      ·exact n1 ((List.mem_singleton.1 e) ▸ hy))
end TR
end Go.Proofs.YthmicafabimfkaaGreatDoor


namespace Go.Proofs.YthmicafabimfkaaGreatDoor
namespace TR
open Go.RowKit
set_option maxRecDepth 100000
abbrev dB : BT := TC.dflt (TC.pair (TC.int IntKind.u8) (TC.pair (TC.int IntKind.u16) (TC.int IntKind.u8)))
theorem xSt {α : Type} (pre : List α) (x : α) (rest : List α) (d : α) : nth (pre ++ x :: rest) d pre.length = x := by
 simp [nth]
theorem xIr {a b : Nat} (h : a + b <= 1000000) : xAN a b = true := by unfold xAN; exact decide_eq_true h
theorem inB_1 {k n : Nat} (h : k < n) : inB (k : Int) n = true := S8.inB_t h
theorem loop0 (F : Nat) (fr : Int) (g1 : List Int) (c1 : Int × (Int × (Int × (Int × (Int × (Int × (Int × (Int × (Int × Int))))))))) (l : List BT) (hl : l.length <= 4) (hk : ∀ x ∈ l, okb x) : ∀ (rest pre : List BT) (n : Nat) (m : QM) (a0 : Q0) (a1 : Q1), l = pre ++ rest -> rest.length < n -> Rep (xDO pre) m a0 a1 ->
  ∃ m' a0' a1', xA0 F fr l g1 c1 n (xHe pre) (drM pre) (pre.length : Int) a0 a1 z7 (pk 0 pre) (par pre) m = some (.inr ((fr, (xHe l, drM l)), (l, (g1, (a0', (a1', (c1, (z7, (pk 0 l, (par l, m'))))))))))
   /\ Rep (xDO l) m' a0' a1'
 | _, _, 0, _, _, _, _, h, _ => absurd h (Nat.not_lt_zero _)
 | [], pre, n + 1, m, a0, a1, e, _, h => by
  rw [List.append_nil] at e;subst e;simp only [xA0];rw [decide_eq_false (show ¬ ((l.length : Int) < (l.length : Int) - 0) by omega)];exact ⟨m, a0, a1, rfl, h⟩
 | x :: rest, pre, n + 1, m, a0, a1, e, hn, h => by
  have hi : pre.length < l.length := by rw [e]; simp
  have hx : okb x := hk x (by rw [e]; simp);obtain ⟨o1, o2⟩ := one_r hx;have tr := tk_r hx;have hp := sum_r pre (fun y hy => hk y (by rw [e]; simp [hy]));have ih := fun m' a0' a1' hr => loop0 F fr g1 c1 l hl hk rest (pre ++ x :: []) n m' a0' a1' (by rw [e, List.append_assoc]; rfl) (by rw [List.length_cons] at hn; omega) hr;simp only [xA0];rw [decide_eq_true (show ((pre.length : Int) < (l.length : Int) - 0) by omega), show inB (pre.length : Int) (l.length - 0) = true from inB_1 hi, Int.toNat_natCast];have hN : nth l dB pre.length = x := by rw [e]; exact xSt pre x rest _
  rw [hN];obtain ⟨x0, x1, x2⟩ := hx;have q1 : jI.wrap (1 + jI.wrap x.1) = cn x := by rw [w64 x.1 (by omega), w64 _ (by omega)]; rfl
  have q2 : jI.wrap (1 + jI.wrap x.2.1) = ms x := by rw [w64 x.2.1 (by omega), w64 _ (by omega)]; rfl
  rw [q1, q2, w64 x.2.2 (by omega)];have c1' : 1 <= cn x /\ cn x <= 256 := by unfold cn; omega
  have q3 : jI.wrap (1 + Int.tmod x.2.2 (cn x)) = tk x := by
   have e2 : 1 + Int.tmod x.2.2 (cn x) = tk x := rfl;rw [w64 _ (by omega), e2]
  simp only [cond_true, cond_false];rw [show xC8 F (cn x, (ms x, ((((0 : Int), (0 : Int)), (((0 : Int), (0 : Int)), ((0 : Int), (0 : Int)))), (0 : Int)))) (z7.1, ((z7.2.1, z7.2.2.1), ((z7.2.2.2.1, z7.2.2.2.2.1), (z7.2.2.2.2.2.1, z7.2.2.2.2.2.2)))) m a0 a1 = some ((((xDO pre).length : Int) + 1, 0), (p7 (u7 z7), (qmf 0 ((xDO pre).length + 1), (a0 ++ [(lt x, 0)], a1)))) from by
   have := xR9 F (lt x) (u7 z7) h (by rw [xEu]; omega);rw [lt_ok ⟨x0, x1, x2⟩, cond_true] at this;exact this]
  rw [xAj];dsimp only;rw [q3, xEu, w64 ((pre.length : Int) + 1) (by omega), show ((0 : Int) != 0) = false from rfl, show (((pre.length : Int) + 1) != ((pre.length : Int) + 1)) = false by simp, show (cn x == 0) = false from beq_eq_false_iff_ne.2 (by omega), xIr (show (pk 0 pre).length - 0 + ((((pre.length : Int) + 1, tk x) :: []).length) <= 1000000 by rw [pk_len, List.length_cons, List.length_nil]; omega), xIr (show (par pre).length - 0 + ((((pre.length : Int) + 1) :: []).length) <= 1000000 by rw [xSj, List.length_cons, List.length_nil]; omega)];simp only [cond_true, cond_false, Bool.not_false];rw [w64 (cn x * ms x) (by omega), w64 (tk x * ms x) (by omega), w64 (xHe pre + cn x * ms x) (by omega), w64 (drM pre + tk x * ms x) (by omega)];have e1 : (pre ++ x :: []).length = pre.length + 1 := by rw [List.length_append, List.length_cons, List.length_nil]
  have ih := ih (qmf 0 (pre.length + 1)) (a0 ++ [(lt x, 0)]) a1 (by
   have r := h.add (lt x) [] 0 a1 (fun j x h => h) (.inl ⟨rfl, rfl⟩) List.Pairwise.nil (fun _ h => by cases h);rw [xEu] at r;rw [xVR];exact r)
  rw [xQb, xTL, xSg, par_app, e1, Nat.zero_add, show (((pre.length + 1 : Nat) : Int)) = (pre.length : Int) + 1 from rfl] at ih;exact ih
end TR
end Go.Proofs.YthmicafabimfkaaGreatDoor


namespace Go.Proofs.YthmicafabimfkaaGreatDoor
namespace TR
open Go.RowKit
set_option maxRecDepth 100000
theorem loop2 (F : Nat) (a b c d : Int) (e : Nat) (f : Int) (g : Bool) (h i : Int) (j : Bool) (g02 : List BT) (g12 : List Int) (a0 : Q0) (a1 : Q1) (s7 : Q7) (p : List Int) (left out : QP) (sl bk : List Int) (g71 : QM) (hp : p.length <= 1000) : ∀ (k n q : Nat), q + k = p.length -> k < n ->
  xA6 F a b c d e f g h i j g02 g12 a0 a1 s7 p left out sl bk p g71 n (q : Int) = some (.inr ((a, (b, (c, (d, (e, (f, (g, (h, (i, j))))))))), (g02, (g12, (a0, (a1, (s7, (p, (left, (out, (sl, (bk, (p, g71)))))))))))))
 | _, 0, _, _, hn => absurd hn (Nat.not_lt_zero _)
 | 0, n + 1, q, hq, _ => by
  simp only [xA6];rw [decide_eq_false (show ¬ ((q : Int) < (p.length : Int) - 0) by omega)];rfl
 | k + 1, n + 1, q, hq, hn => by
  have ih := loop2 F a b c d e f g h i j g02 g12 a0 a1 s7 p left out sl bk g71 hp k n (q + 1) (by omega) (by omega);simp only [xA6];rw [decide_eq_true (show ((q : Int) < (p.length : Int) - 0) by omega), show inB (q : Int) (p.length - 0) = true from inB_1 (by omega), show (nth p (0 : Int) (q : Int).toNat != nth p (0 : Int) (q : Int).toNat) = false by simp];simp only [cond_true, cond_false];rw [w64 _ (by omega)];exact ih
/-- One thing goes back. -/
theorem xWy (F : Nat) (hF : 2000 < F) {es : List (QL × List Int)} {m : QM} {a0 : Q0} {a1 : Q1} (h : Rep es m a0 a1) (hs : es.length < 200) (v : Int) (hv : 1 <= v /\ v <= 1000000) (pl : QP) (ps : List Int) (hl : ps.length <= 10) (hsrt : ps.Pairwise (· < ·)) (hps : ∀ y ∈ ps, xDD y es.length = true /\ xA1 es y = []) :
  ∃ m' a0' a1' es', xCG F (1, (v, (zQ, 0))) pl m ps a0 a1 = some (((es.length : Int) + 1, 0), (p7 pl, (m', (a0', a1')))) /\ xDr F ((es.length : Int) + 1) pl m' a0' a1' = some (0, (p7 pl, (m', (a0', (a1', ps))))) /\ Rep es' m' a0' a1' /\ es'.length = es.length + 1 /\ (∀ y ∈ ps, xDD y es'.length = true /\ xA1 es' y = []) /\ (tot es').1 = (tot es).1 + v := by
 have hok : okL (1, (v, (zQ, 0))) = true := by
  unfold okL qLot;rw [decide_eq_true (show v >= (1 : Int) by omega), decide_eq_true (show v <= (1000000 : Int) by omega)];rfl
 have hn : ps.Nodup := List.nodup_iff_pairwise_ne.2 (hsrt.imp (fun h e => by omega));obtain ⟨s, e1⟩ := xMp es ps [] [] hn (fun y hy => (hps y hy).1) (fun y _ => by simp);have e2 : qRet es (1, (v, (zQ, 0))) ps = .inr s := by
  unfold qRet;rw [hok, cond_true, decide_eq_false (show ¬ ((ps.length : Int) > 10) by omega), cond_false];exact e1
 obtain ⟨_, r1, r2, r3⟩ := ret_ok h e2;obtain ⟨i1, _, _⟩ := xNG ps [] [] s e1 List.Pairwise.nil;have es : s = ps := srt_eq i1 hsrt (fun x => by
  rw [r3 x];refine ⟨fun hx => ?_, .inl⟩;rcases hx with hx | ⟨y, hy, hx⟩
  ·exact hx
  ·rw [(hps y hy).2] at hx; cases hx)
 subst es;have q1 := xVy F (by omega) (1, (v, (zQ, 0))) pl s (by omega) h hs;rw [e2] at q1;have q2 := q_trace F ((es.length : Int) + 1) pl r1 (by rw [List.length_append, List.length_cons, List.length_nil]; omega);rw [xAU.2 (show (1 : Int) <= (es.length : Int) + 1 /\ (es.length : Int) + 1 <= ((es ++ [((1, (v, (zQ, 0))), s)]).length : Int) by rw [List.length_append, List.length_cons, List.length_nil]; omega), cond_true, anc_new] at q2;refine ⟨_, _, _, _, q1, q2, r1, by rw [List.length_append, List.length_cons, List.length_nil], fun y hy => ?_, ?_⟩
 ·have hy2 := hps y hy;rw [anc_old _ hy2.1];have := xAU.1 hy2.1;exact ⟨xAU.2 (by rw [List.length_append, List.length_cons, List.length_nil]; omega), hy2.2⟩
 ·rw [xRr];show (tot es).1 + 1 * v = _;omega
theorem nth_at {pre rest bk : List Int} {v : Int} (h : bk = pre ++ v :: rest) : nth bk (0 : Int) pre.length = v := by rw [h]; exact xSt pre v rest 0
theorem loop1 (F : Nat) (hF : 2000 < F) (all dr : Int) (g01 : List BT) (g11 : List Int) (pl : QP) (ps : List Int) (hl : ps.length <= 10) (hsrt : ps.Pairwise (· < ·)) (left out : QP) (sl bk : List Int) (hb : bk.length <= 100) : ∀ (rest pre : List Int) (n : Nat) (es : List (QL × List Int)) (m : QM) (a0 : Q0) (a1 : Q1), bk = pre ++ rest -> rest.length < n -> Rep es m a0 a1 -> es.length <= 10 + pre.length -> (∀ v ∈ rest, 0 <= v) -> (∀ y ∈ ps, xDD y es.length = true /\ xA1 es y = []) ->
  (∃ x, xAM F n all dr (pre.length : Int) g01 g11 a0 a1 (p7 pl) ps left out sl bk m = some (.inl (true, x))) \/
  (∃ m' a0' a1' es', xAM F n all dr (pre.length : Int) g01 g11 a0 a1 (p7 pl) ps left out sl bk m = some (.inr ((all, dr), (g01, (g11, (a0', (a1', (p7 pl, (left, (out, (sl, m')))))))))) /\ Rep es' m' a0' a1' /\ (tot es').1 = (tot es).1 + S8.lsm rest)
 | _, _, 0, _, _, _, _, _, h, _, _, _, _ => absurd h (Nat.not_lt_zero _)
 | [], pre, n + 1, es, m, a0, a1, e, _, h, _, _, _ => by
  rw [List.append_nil] at e;subst e;refine .inr ⟨m, a0, a1, es, ?_, h, by simp [S8.lsm]⟩;simp only [xAM];rw [decide_eq_false (show ¬ ((bk.length : Int) < (bk.length : Int) - 0) by omega)];rfl
 | v :: rest, pre, n + 1, es, m, a0, a1, e, hn, h, hs, hv, hps => by
  have hi : pre.length < bk.length := by rw [e]; simp
  have ih := fun es' m' a0' a1' hr h1 h2 => loop1 F hF all dr g01 g11 pl ps hl hsrt left out sl bk hb rest (pre ++ v :: []) n es' m' a0' a1' (by rw [e, List.append_assoc]; rfl) (by rw [List.length_cons] at hn; omega) hr h1 (fun x hx => hv x (List.mem_cons_of_mem _ hx)) h2;have hv0 := hv v (List.mem_cons_self ..);have eL : ((pre ++ v :: []).length : Int) = (pre.length : Int) + 1 := by rw [List.length_append, List.length_cons, List.length_nil]; omega
  have eN : (pre ++ v :: []).length = pre.length + 1 := by rw [List.length_append, List.length_cons, List.length_nil]
  rw [eL] at ih;simp only [xAM];rw [decide_eq_true (show ((pre.length : Int) < (bk.length : Int) - 0) by omega), show inB (pre.length : Int) (bk.length - 0) = true from inB_1 hi, Int.toNat_natCast, nth_at e, decide_eq_false (show ¬ v < 0 by omega)];simp only [cond_true, cond_false];by_cases h1 : v > 1000000
  ·rw [decide_eq_true h1];exact .inl ⟨_, rfl⟩
  ·rw [decide_eq_false h1];simp only [cond_false];rw [w64 _ (show -9223372036854775808 <= (pre.length : Int) + 1 /\ (pre.length : Int) + 1 <= 9223372036854775807 by omega)];by_cases h2 : v = 0
   ·rw [show (v == 0) = true from beq_iff_eq.2 h2];simp only [cond_true];rcases ih es m a0 a1 h (by omega) hps with x | ⟨m', a0', a1', es', x1, x2, x3⟩
    ·exact .inl x
    ·refine .inr ⟨m', a0', a1', es', x1, x2, ?_⟩;rw [x3, S8.lsm]; omega
   ·rw [show (v == 0) = false from beq_eq_false_iff_ne.2 h2, show xAN 0 ps.length = true from xIr (by omega)];simp only [cond_true, cond_false, List.nil_append];obtain ⟨m', a0', a1', es', y1, y2, y3, y4, y5, y6⟩ := xWy F hF h (by omega) v (by omega) pl ps hl hsrt hps;have y1' : xCG F ((1 : Int), (v, ((((0 : Int), (0 : Int)), (((0 : Int), (0 : Int)), ((0 : Int), (0 : Int)))), (0 : Int)))) ((p7 pl).1, (((p7 pl).2.1, (p7 pl).2.2.1), (((p7 pl).2.2.2.1, (p7 pl).2.2.2.2.1), ((p7 pl).2.2.2.2.2.1, (p7 pl).2.2.2.2.2.2)))) m ps a0 a1 = _ := y1;rw [y1', xAj];dsimp only;have y2' : xDr F ((es.length : Int) + 1) ((p7 pl).1, (((p7 pl).2.1, (p7 pl).2.2.1), (((p7 pl).2.2.2.1, (p7 pl).2.2.2.2.1), ((p7 pl).2.2.2.2.2.1, (p7 pl).2.2.2.2.2.2)))) m' a0' a1' = _ := y2;rw [show ((0 : Int) != 0) = false from rfl, y2', xAj];dsimp only;rw [show ((0 : Int) != 0) = false from rfl, show (((ps.length : Int) - 0) != ((ps.length : Int) - 0)) = false by simp];simp only [cond_false];have y7 := fun b c d e f g h i j s7 => loop2 F all b c d e f g h i j g01 g11 a0' a1' s7 ps left out sl bk m' (by omega) ps.length F 0 (by omega) (by omega);rw [show (0 : Int) = ((0 : Nat) : Int) from rfl];rw [y7, xAj];dsimp only [su];rw [w64 _ (show -9223372036854775808 <= (pre.length : Int) + 1 /\ (pre.length : Int) + 1 <= 9223372036854775807 by omega)];rcases ih es' m' a0' a1' y3 (by rw [y4, eN]; omega) y5 with x | ⟨m2, a02, a12, es2, x1, x2, x3⟩
    ·exact .inl x
    ·refine .inr ⟨m2, a02, a12, es2, x1, x2, ?_⟩;rw [x3, y6, S8.lsm]; omega
end TR
end Go.Proofs.YthmicafabimfkaaGreatDoor


namespace Go.Proofs.YthmicafabimfkaaGreatDoor
namespace TR
open Go.RowKit
set_option maxRecDepth 100000
theorem u64_nn (x : Int) : 0 <= jU.wrap x := by
 rw [IntKind.wrap_u64]; omega
theorem u64_id (x : Int) (h : 0 <= x /\ x <= 9223372036854775807) : jU.wrap x = x := by
 rw [IntKind.wrap_u64]; omega
theorem w7_1 (x : Q7) : (w7 x).1 = jI.wrap x.1 := rfl
theorem returns_law (F : Nat) (hF : 2000 < F) (fr : Int) (c : ((Int × Int) × ((Int × Int) × Int)) × (Int × (Int × (Int × (Int × Int))))) (l : List BT) (hk : ∀ x ∈ l, okb x) (T : List Int) (hT : ∀ x ∈ T, 0 <= x /\ x <= 255) : ∃ x, xEn F fr c l T [] [] = some (true, x) := by
 unfold xEn;by_cases h1 : (l.length : Int) - 0 < 1
 ·rw [decide_eq_true h1];exact ⟨_, rfl⟩
 by_cases h2 : (l.length : Int) - 0 > 4
 ·rw [decide_eq_false h1, decide_eq_true h2];exact ⟨_, rfl⟩
 by_cases h3 : c.2.2.1 > 30
 ·rw [decide_eq_false h1, decide_eq_false h2, decide_eq_true h3];exact ⟨_, rfl⟩
 rw [decide_eq_false h1, decide_eq_false h2, decide_eq_false h3];simp only [cond_false];rw [xAj];dsimp only;simp only [cond_false];obtain ⟨⟨⟨c1, c2⟩, ⟨⟨c3, c4⟩, c5⟩⟩, ⟨b1, b2, b3, b4, b5⟩⟩ := c;dsimp only at h3 ⊢;obtain ⟨⟨s1, s2⟩, s3, s4⟩ := sum_r l hk;obtain ⟨m, a0, a1, e0, hR⟩ := loop0 F fr T (c1, (c2, (c3, (c4, (c5, (b1, (b2, (b3, (b4, b5))))))))) l (by omega) hk l [] F [] [] [] rfl (by omega) Rep.nil;have e0' : xA0 F fr l T (c1, (c2, (c3, (c4, (c5, (b1, (b2, (b3, (b4, b5))))))))) F (0 : Int) (0 : Int) (0 : Int) [] [] ((0 : Int), ((0 : Int), ((0 : Int), ((0 : Int), ((0 : Int), ((0 : Int), (0 : Int))))))) [] [] [] = _ := e0;rw [e0', xAj];dsimp only [su];have hd : qdr (xDO l) [] (pk 0 l) = 0 := dr_ok l hk l [] [] rfl (fun y h => by cases h);rw [xIr (show 0 + (pk 0 l).length <= 1000000 by rw [pk_len]; omega), List.nil_append];have hdr : w7 (xBB (xDO l) z7 (pk 0 l)) = (drM l, (0, (0, (0, (0, (0, 0)))))) := by
  have := xLE l l [] 0 rfl;rw [Int.zero_add] at this;rw [show xBB (xDO l) z7 (pk 0 l) = _ from this];show (jI.wrap (drM l), _) = _;rw [w64 _ (by omega)];rfl
 obtain ⟨a2, d1, d2⟩ : ∃ a2, xDs F (u7 z7) m (pk 0 l) a0 a1 = some (0, ((drM l, (0, (0, (0, (0, (0, 0)))))), (m, (a2, a1)))) /\ Rep (xDZ (xDO l) (pk 0 l)) m a2 a1 := by
  rcases q_draw F (by omega) z7 (pk 0 l) (by rw [pk_len]; omega) hR (by rw [xEu]; omega) (xVQ l hk) with ⟨x, _⟩ | ⟨_, a2, x1, x2, _⟩
  ·exact absurd hd x
  ·rw [hdr, w7z] at x1;exact ⟨a2, x1, x2⟩
 have d1' : xDs F (z7.1, ((z7.2.1, z7.2.2.1), ((z7.2.2.2.1, z7.2.2.2.2.1), (z7.2.2.2.2.2.1, z7.2.2.2.2.2.2)))) m (pk 0 l) a0 a1 = _ := d1;simp only [cond_true, cond_false];rw [d1', xAj];dsimp only;have tt := xL0 (pk 0 l) (xDO l) [] z7 hd;have tt1 : (tot (xDZ (xDO l) (pk 0 l))).1 + drM l = xHe l := by
  have e1 := congrArg Prod.fst tt;have e2 : (xBB (xDO l) z7 (pk 0 l)).1 = drM l := by
   have := xLE l l [] 0 rfl;rw [Int.zero_add] at this;rw [show xBB (xDO l) z7 (pk 0 l) = _ from this]
  rw [xOK] at e1;change (tot (xDZ (xDO l) (pk 0 l))).1 + (xBB (xDO l) z7 (pk 0 l)).1 = xHe l + 0 at e1;omega
 have hes : (xDZ (xDO l) (pk 0 l)).length = l.length := by rw [xL1, xEu]
 have hanc : ∀ q, xA1 (xDZ (xDO l) (pk 0 l)) q = [] := fun q => by rw [xL2 _ _ _ q hd, xVS]
 generalize xDZ (xDO l) (pk 0 l) = es at *;have q1 := q_sums F (drM l, zQ) d2;have q1' : xGQ F (drM l, ((0, 0), ((0, 0), (0, 0)))) m a2 a1 = _ := q1;rw [show ((0 : Int) != 0) = false from rfl, q1', xAj];dsimp only [p7, u7];rw [w7_1, w64 (tot es).1 (by omega), tt1, w64 (xHe l) (by omega)];rw [show (xHe l != xHe l) = false by simp, show (drM l != drM l) = false by simp, u64_id (drM l) (by omega), show (drM l == 0) = false from beq_eq_false_iff_ne.2 (by omega)];simp only [cond_false, cond_true, Bool.not_false];have t1 := Int.tmod_nonneg (drM l) (u64_nn fr);have t2 := Int.tmod_lt_of_pos (jU.wrap fr) (show 0 < drM l by omega);rw [w64 (Int.tmod (jU.wrap fr) (drM l)) (by omega), w64 (1 + Int.tmod (jU.wrap fr) (drM l)) (by omega)];generalize hso : 1 + Int.tmod (jU.wrap fr) (drM l) = so;obtain ⟨R, x, p1, p2, p3⟩ := M3.predict_one F hF (drM l) so (by omega) (by omega) (by omega);have p1' : xCH F (drM l, ((0, 0), ((0, 0), (0, 0)))) (((1 : Int), (so, (((0 : Int), (0 : Int)), (((0 : Int), (0 : Int)), ((0 : Int), (0 : Int)))))) :: []) = _ := p1;rw [p1', xAj];dsimp only;rw [show ((0 : Int) != 0) = false from rfl, show (((x :: [] : List M3.Tfr).length : Int) - 0 != 1) = false from rfl, show inB (0 : Int) ((x :: [] : List M3.Tfr).length - 0) = true from rfl, show ∀ d, (nth (x :: [] : List M3.Tfr) d 0) = x from fun _ => rfl, p3, show (so != so) = false by simp, p2, w64 (drM l - so) (by omega), show ((drM l - so) != (drM l - so)) = false by simp];simp only [cond_false, cond_true];rw [xAj];dsimp only;simp only [cond_false];have t3 := Int.tmod_nonneg 10000 (show 0 <= so by omega);have t4 := Int.tmod_lt_of_pos so (show (0 : Int) < 10000 by omega);rw [w64 (1 + Int.tmod so 10000) (by omega)];generalize hn : 1 + Int.tmod so 10000 = n;generalize hw : (((c1, c2), ((c3, c4), c5)) : S8.WrT) = w;generalize hb : ((b1, (b2, (b3, (b4, b5)))) : S8.WbT) = b
 cases hc : S8.ckI w b n == 0 with
 | false =>
  rw [S8.followed_bad F w b n T hc, xAj];dsimp only;simp only [Bool.not_false, cond_true];rw [S8.check_eq, xAj, show (S8.ckI w b n != 0) = true by rw [bne, hc]; rfl];exact ⟨_, rfl⟩
 | true =>
  have h0 : S8.ckI w b n = 0 := beq_iff_eq.1 hc;have hg : S8.mU b n <= 30 := by
   have r := S8.us_range (S8.vld_of h0);have e : b.2.1 = b2 := by rw [<- hb]
   unfold S8.mU;omega
  obtain ⟨top, bot, S, K, f1, t5, b5', K2, S2, f2, ⟨g1, g2, g3, g4⟩, sg, f3, f4⟩ := S8.fdiv F hF h0 hg T hT so (by omega);rw [f1, xAj];dsimp only;simp only [Bool.not_true, cond_false];rw [f2, xAj];dsimp only;rw [show ((0 : Int) != 0) = false from rfl, xIr (show ((drM l - so) :: (t5 :: (b5' :: []))).length - 0 + K2.length <= 1000000 by simp only [List.length_cons, List.length_nil]; omega)];simp only [cond_false, cond_true];generalize hbk : ((drM l - so) :: (t5 :: (b5' :: []))) ++ K2 = bk;generalize hlf : (((tot es).1, (((w7 (tot es)).2.1, (w7 (tot es)).2.2.1), (((w7 (tot es)).2.2.2.1, (w7 (tot es)).2.2.2.2.1), ((w7 (tot es)).2.2.2.2.2.1, (w7 (tot es)).2.2.2.2.2.2)))) : QP) = lf;have lbk : bk.length = K2.length + 3 := by rw [<- hbk, List.length_append]; simp only [List.length_cons, List.length_nil]; omega
  have sbk : S8.lsm bk = (drM l - so) + t5 + b5' + S8.lsm K2 := by rw [<- hbk, S8.lsm_app]; simp only [S8.lsm]; omega
  have L := loop1 F hF (xHe l) (drM l) l T (drM l, zQ) (par l) (by rw [xSj]; omega) (pk_srt l 0) lf (drM l, zQ) S2 bk (by omega) bk [] F es m a2 a1 rfl (by omega) d2 (by omega) (fun v hv => by
   rw [<- hbk] at hv;rcases List.mem_append.1 hv with h | h
   ·simp only [List.mem_cons, List.not_mem_nil, or_false] at h;omega
   ·exact g3 v h) (fun y hy => ⟨by
    have := xSf l 0 y hy;exact xAU.2 (by omega), hanc y⟩)
  rcases L with ⟨y, hy⟩ | ⟨m2, a02, a12, es2, y1, y2, y3⟩
  ·have hy' : xAM F F (xHe l) (drM l) (0 : Int) l T a2 a1 (drM l, (0, (0, (0, (0, (0, 0)))))) (par l) lf (drM l, zQ) S2 bk m = _ := hy;rw [hy', xAj];exact ⟨_, rfl⟩
  ·have y1' : xAM F F (xHe l) (drM l) (0 : Int) l T a2 a1 (drM l, (0, (0, (0, (0, (0, 0)))))) (par l) lf (drM l, zQ) S2 bk m = _ := y1;rw [y1', xAj];dsimp only [p7];have q2 := q_sums F (drM l, zQ) y2;have q2' : xGQ F (drM l, ((0, 0), ((0, 0), (0, 0)))) m2 a02 a12 = _ := q2;rw [q2', xAj, f3, xAj];dsimp only [u7];rw [w7_1, ww2, w64 ((tot es2).1 + sg) (by omega), show (tot es2).1 + sg = xHe l by omega, show (xHe l == xHe l) = true by simp, show (drM l == drM l) = true by simp];exact ⟨_, rfl⟩
end TR
end Go.Proofs.YthmicafabimfkaaGreatDoor
