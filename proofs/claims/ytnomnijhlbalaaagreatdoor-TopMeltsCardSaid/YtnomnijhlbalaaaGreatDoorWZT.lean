/- A part of the proof of the theorem of the last file. No condition. By an AI agent. -/
import Derived.Test.YtnomnijhlbalaaaGreatDoorWZ10
namespace Go.Proofs.YtnomnijhlbalaaaGreatDoor
noncomputable section
open Go.RowKit
inductive PT where
 | done
 | rd (i : Nat) (t : PT)
 | go (i : Nat) (A : List Nat) (t : PT)
 | both (r g : Nat) (a b : PT)
def rdKind : Op -> Bool
 | .move _ | .assign _ | .pick .. | .load .. | .nilCheck _ | .binOp .. | .unOp .. | .convert .. | .fieldAddr .. | .field .. | .indexAddr .. | .index .. | .extract .. | .slice .. | .build .. | .lookup .. => true
 | .call ⟨.builtin .len, _, _⟩ | .call ⟨.builtin .min, _, _⟩ | .call ⟨.builtin .max, _, _⟩ => true
 | _ => false
def xBW (o : Oper) : Bool :=
 match o.dst with
 | some _ => match o.op with
  | .alloc _ | .box _ _ | .buildSlice _ _ _ | .makeSlice _ _ _ => true
  | _ => false
 | none => false
def opAt (f : Oper -> Bool) (ops : Array Oper) (i : Nat) : Bool :=
 match ops[i]? with
 | some o => f o
 | none => false
def xGw (l : List Nat) (listed : Array Bool) : Array Bool := l.foldl (fun t i => t.setIfInBounds i true) listed
def only (md : Region.Mode) (ops : Array Oper) (listed : Array Bool) (A : List Nat) (i : Nat) : Bool :=
 match Region.ready md ops (xGw A listed) with
 | [j] => Nat.beq i j
 | _ => false
def without (i : Nat) : List Nat -> List Nat
 | [] => []
 | j :: l => bif Nat.beq i j then without i l else j :: without i l
def xMl (f : Nat -> Bool) : List Nat -> Option Nat
 | [] => none
 | i :: l => bif f i then some i else xMl f l
def xQK (ops : Array Oper) : Nat -> Array Bool -> Option PT
 | 0, _ => none
 | n + 1, listed => match Region.ready .any ops listed with
  | [] => some .done
  | R => match xMl (fun i => opAt (fun o => rdKind o.op) ops i && Region.free .any ops listed i) R with
   | some i => match xQK ops n (listed.setIfInBounds i true) with
    | some t => some (.rd i t)
    | none => none
   | none => match xMl (fun i => !opAt xBW ops i && only .any ops listed (R.filter (opAt xBW ops)) i) R with
    | some i => match xQK ops n (listed.setIfInBounds i true) with
     | some t => some (.go i (R.filter (opAt xBW ops)) t)
     | none => none
    | none => match xMl (fun i => only .any ops listed (without i R) i) R with
     | some i => match xQK ops n (listed.setIfInBounds i true) with
      | some t => some (.go i (without i R) t)
      | none => none
     | none => none
def planOf (ops : Array Oper) : Option PT := xQK ops (ops.size + 1) (Array.replicate ops.size false)
section
variable {β : Type}
def disj (l m : List Nat) : Bool := l.all (fun x => m.all (fun y => !Nat.beq x y))
abbrev Reads := List (Nat × Option (List Nat))
def calm (ops : Array Oper) (G : Reads) (i : Nat) (t : List Nat) : Bool :=
 G.all (fun p => (match p.2 with
  | some ids => disj ids t
  | none => false) || waits .any ops ops.size i p.1)
def xOT (t : List Nat) : Reads -> Reads
 | [] => []
 | (i, x) :: G => (i, match x with
  | some ids => bif disj ids t then some ids else none
  | none => none) :: xOT t G
def xUT (P : Program) (N : Nat) (call : xAT β) (ok : List Nat -> Bool) (K : Slo) (h : List Root) (o : Oper) (k : List Nat -> Slo -> List Root -> Option β) : Option β :=
 match xHz P K h o with
 | .val g v => gds g (xC5 N K o v h (k []))
 | .pick b x y => bif b then xC5 N K o x h (k []) else xC5 N K o y h (k [])
 | .stuck => match stepM P K h o with
  | .mem g v h' t => bif ok t then gds g (xC5 N K o v h' (k t)) else none
  | .call f args => call f args h (fun t v h' => bif ok t then xC5 N K o v h' (k t) else none)
  | _ => none
 | _ => none
def opRd (P : Program) (N : Nat) (K : Slo) (h : List Root) (o : Oper) (k : Slo -> Option β) : Option β :=
 match xHz P K h o with
 | .val g v => gds g (match xHT N K o.dst v with
  | some K' => k K'
  | none => none)
 | .pick b x y => bif b then (match xHT N K o.dst x with
   | some K' => k K'
   | none => none) else (match xHT N K o.dst y with
   | some K' => k K'
   | none => none)
 | _ => none
def xKl (ops : Array Oper) (K : Slo) (o : Oper) (f g : Slo -> Option β) : Option β :=
 match xWp ops K o with
 | .go => f K
 | .no => g K
 | .test t b want => bif b then (bif want then f (xDr K t (.c (.sc (.bool true)))) else g (xDr K t (.c (.sc (.bool true)))))
   else (bif want then g (xDr K t (.c (.sc (.bool false)))) else f (xDr K t (.c (.sc (.bool false)))))
 | .bad => none
def gdSt (ops : Array Oper) (K : Slo) (o : Oper) : Option Bool :=
 match xWp ops K o with
 | .go => some true
 | .no => some false
 | .test _ b want => some (bif b then want else !want)
 | _ => none
def early (P : Program) (N : Nat) (K : Slo) (h : List Root) (ops : Array Oper) : List Nat -> Option β -> Option β
 | [], r => r
 | e :: A, r => match ops[e]? with
  | some o => match o.dst, gdSt ops K o with
   | some d, some b => bif Nat.ble (d + 1) N then (bif b then (match xHz P K h o, stepM P K h o with
    | .stuck, .mem g _ _ [] => gds g (early P N K h ops A r)
    | _, _ => none) else early P N K h ops A r) else none
   | _, _ => none
  | none => none
def xDo (P : Program) (N : Nat) (ops : Array Oper) (call : xAT β) : PT -> Reads -> Slo -> List Root -> (Slo -> List Root -> Option β) -> Option β
 | .done, _, K, h, k => k K h
 | .rd i t, G, K, h, k => match ops[i]? with
  | some o => xKl ops K o (fun K => opRd P N K h o (fun K' => xDo P N ops call t ((i, some (xGs K h o)) :: G) K' h k)) (fun K => xC5 N K o .un h (fun K' h' => xDo P N ops call t G K' h' k))
  | none => none
 | .go i A t, G, K, h, k => match ops[i]? with
  | some o => early P N K h ops A (xKl ops K o (fun K => xUT P N call (calm ops G i) K h o (fun tt K' h' => xDo P N ops call t (xOT tt G) K' h' k)) (fun K => xC5 N K o .un h (fun K' h' => xDo P N ops call t G K' h' k)))
  | none => none
 | .both _ _ _ _, _, _, _, _ => none
def xWS (l : List Nat) : Slo -> Slo
 | K => l.foldr (fun t K => delP K t) K
def xFg (P : Program) (N : Nat) (ops : Array Oper) (call : xAT β) (t : PT) (K : Slo) (h : List Root) (k : Slo -> List Root -> Option β) : Option β :=
 xDo P N ops call t [] (xWS ((ops.toList.filter xBW).filterMap (·.dst)) K) h k
def xYb (r : Nat) : Nat -> List Oper -> List Oper
 | _, [] => []
 | 0, o :: l => { o with after := o.after.push ⟨r, .chain⟩ } :: l
 | i + 1, o :: l => o :: xYb r i l
def xCm (ops : Array Oper) (g r : Nat) : Array Oper := ⟨xYb r g ops.toList⟩
theorem bothX (x y : Option β) : ∃ r : Option β, r = @ite _ (x = y) (Classical.propDecidable _) x none := ⟨_, rfl⟩
def both (x y : Option β) : Option β := Classical.choose (bothX x y)
theorem xXF (x y : Option β) : both x y = @ite _ (x = y) (Classical.propDecidable _) x none := Classical.choose_spec (bothX x y)
theorem xJY (x : Option β) : both x x = x := by rw [xXF, if_pos rfl]
theorem xXE {x y : Option β} {r : β} (h : both x y = some r) : x = some r /\ y = some r := by
 rw [xXF] at h;split at h
 ·rename_i e; exact ⟨h, e ▸ h⟩
 ·cases h
def xK8 (P : Program) (N : Nat) (ops : Array Oper) (call : xAT β) (t : PT) (K : Slo) (h : List Root) (k : Slo -> List Root -> Option β) : Option β :=
 match t with
 | .both r g a b => both (xFg P N (xCm ops g r) call a K h k) (xFg P N (xCm ops r g) call b K h k)
 | t => xFg P N ops call t K h k
def ptGo (ops : Array Oper) : PT -> Array Bool -> Bool
 | .both _ _ _ _, _ => false
 | .done, listed => (Region.ready .any ops listed).isEmpty
 | .rd i t, listed => (Region.ready .any ops listed).contains i && Region.free .any ops listed i && !opAt xBW ops i && ptGo ops t (listed.setIfInBounds i true)
 | .go i A t, listed => (Region.ready .any ops listed).contains i && Region.free .any ops listed i && only .any ops listed A i && A.all (fun e => (Region.ready .any ops listed).contains e && Region.free .any ops listed e && opAt xBW ops e && !Nat.beq i e) &&
   (Region.ready .any ops listed).all (fun j => Nat.beq i j || !opAt xBW ops j || A.any (Nat.beq j)) && ptGo ops t (listed.setIfInBounds i true)
def xHu (ops : Array Oper) : Bool := (List.range ops.size).all fun j => !opAt xBW ops j || (match ops[j]? with
 | some oj => match oj.dst with
  | some d => !(oj.looksAt ops).contains d && (List.range ops.size).all (fun i => Nat.beq i j || (match ops[i]? with
   | some oi => match oi.dst with
    | some d' => !Nat.beq d d'
    | none => true
   | none => true))
  | none => false
 | none => false)
def xKh (ops : Array Oper) (t : PT) : Bool := Region.noSelect ops && xHu ops && ptGo ops t (Array.replicate ops.size false)
def ptOk (ops : Array Oper) : PT -> Bool
 | .both r g a b => !Nat.beq r g && xKh (xCm ops g r) a && xKh (xCm ops r g) b
 | t => xKh ops t
inductive XT where
 | normal
 | exit (id : Nat)
 | ret
def XT.out : XT -> Exit
 | .normal => .normal
 | .exit id => .exit id
 | .ret => .ret
abbrev xFn (β : Type) := XT -> Slo -> List Root -> Option β
def xX8 : Nat -> List PV -> Slo
 | _, [] => .nil
 | i, v :: l => xDr (xX8 (i + 1) l) i v
def xOw (body : Slo -> List Root -> xFn β -> Option β) : Nat -> Slo -> List Root -> xFn β -> Option β
 | 0, _, _, _ => none
 | n + 1, K, h, k => body K h (fun e K' h' => match e with
  | .normal => xOw body n K' h' k
  | e => k e K' h')
def xDS (P : Program) (Fu : Nat) (pl : Nat -> Option PT) (call : xAT β) : Nat -> Nat -> Code -> Slo -> List Root -> xFn β -> Option β
 | 0, _, _, _, _, _ => none
 | d + 1, N, c, K, h, k => match c with
  | .skip => k .normal K h
  | .exit id => k (.exit id) K h
  | .ret => k .ret K h
  | .region _ ops false => xFe P N ops call ops.toList K h (k .normal)
  | .region id ops true => match pl id with
   | some t => xK8 P N ops call t K h (k .normal)
   | none => none
  | .seq x y => xDS P Fu pl call d N x K h (fun e K' h' => match e with
   | .normal => xDS P Fu pl call d N y K' h' k
   | e => k e K' h')
  | .cond c x y => match xAv K c with
   | some (.c (.sc (.bool b))) => bif b then xDS P Fu pl call d N x K h k else xDS P Fu pl call d N y K h k
   | _ => none
  | .block id x => xDS P Fu pl call d N x K h (fun e K' h' => match e with
   | .exit id' => bif Nat.beq id' id then k .normal K' h' else k (.exit id') K' h'
   | e => k e K' h')
  | .loop x => xOw (fun K h k => xDS P Fu pl call d N x K h k) Fu K h k
  | _ => none
def lkN {α : Type} : List (Nat × α) -> Nat -> Option α
 | [], _ => none
 | (i, x) :: l, n => bif Nat.beq i n then some x else lkN l n
abbrev xFm := List (Nat × List (Nat × PT))
def xE4 (A : xFm) (f : Nat) : Nat -> Option PT :=
 match lkN A f with
 | some l => lkN l
 | none => fun _ => none
abbrev Sums := FuncId -> List PV -> List Root -> Option (Option (PV × List Root))
def noSums : Sums := fun _ _ _ => none
def xRR (P : Program) (Fu : Nat) (A : xFm) (Sm : Sums) : Nat -> xAT β
 | 0, _, _, _, _ => none
 | d + 1, f, args, h, k => match Sm f args h with
  | some r => match r with
   | some (v, news) => k [] v (h ++ news)
   | none => none
  | none => match P.funcs[f]? with
   | some fn => match fn.body with
    | some c => xDS P Fu (xE4 A f) (xRR P Fu A Sm d) 10000 (args.length + (fn.ntmps - args.length)) c (xX8 0 args) (xVi (xA5 h args) h) (fun e K' h' => match e with
     | .exit _ => none
     | _ => match xTj P K' h' fn.results.toList with
      | some v => k (xA5 h args) v (xEL (xA5 h args) h h' 0)
      | none => none)
    | none => none
   | none => none
def xAU (pl : Nat -> Option PT) : Code -> Bool
 | .region id ops true => match pl id with
  | some t => ptOk ops t
  | none => true
 | .seq x y => xAU pl x && xAU pl y
 | .cond _ x y => xAU pl x && xAU pl y
 | .block _ x => xAU pl x
 | .loop x => xAU pl x
 | _ => true
def xAV (P : Program) (p : Nat × List (Nat × PT)) : Bool :=
 match P.funcs[p.1]? with
 | some fn => match fn.body with
  | some c => xAU (lkN p.2) c
  | none => true
 | none => true
def xEl (P : Program) (A : xFm) : Prop := ∀ p ∈ A, xAV P p = true
end
end
noncomputable section
open Go.RowKit
section
variable {P : Program} {N : Nat} {D : List Deferred} {S F : List Nat} {W0 : World} {ρ : List Info} {K : Slo} {h : List Root} {w : World} {a : Act} {o : Oper}
def xLw (P : Program) (ρ : List Info) (h : List Root) (a : Act) (o : Oper) (v : PV) (h2 : List Root) : Prop :=
 ∃ (r : Root) (info : Nat -> Info) (mk : Nat -> Value) (obj : Obj), h2 = h ++ [r] /\ (∀ w : World, (execOp a.eval o).run P w = .ok (.value (mk w.heap.size)) (w.alloc obj)) /\
  ∀ (w1 : World) (b : Nat), w1.heap[b]? = some obj -> RootOk (ρ ++ [info b]) w1 (info b) r /\ DenP (ρ ++ [info b]) v (mk b) /\ (∀ c, foot (info b) r c -> c = b) /\ (∀ t, (info b).objs t = []) /\ r.tag = none
theorem xQU (hl : ρ.length = h.length) (i : Info) : (ρ ++ [i])[h.length]? = some i := by
 rw [List.getElem?_append_right (by omega), <- hl]; simp
theorem al_blk (hl : ρ.length = h.length) {cs : List CV} {T : TypeId} {arr : Array Value} (hd : DenL ρ cs arr.toList) (hrun : ∀ w : World, (execOp a.eval o).run P w = .ok (.value (.pointer (some ⟨w.heap.size, 0, none⟩))) (w.alloc (.cells arr T (0, 0)))) :
  xLw P ρ h a o (.c (.pt h.length 0 0 0)) (h ++ [.blk cs T]) := by
 refine ⟨_, fun b => ⟨some ⟨b, 0, none⟩, cs.length, none, .nilFunc⟩, fun b => .pointer (some ⟨b, 0, none⟩), .cells arr T (0, 0), rfl, hrun, fun w1 b hb => ⟨⟨⟨rfl, rfl⟩, b, arr.toList, rfl, hd.mono (Pre.app _ _), by simpa using hb⟩, ⟨_, b, 0, xQU hl _, rfl, ⟨fun m hm => (by cases hm), fun _ h0 => (by cases h0)⟩, rfl⟩, fun c hc => ?_, fun _ => rfl, rfl⟩⟩;simpa [foot, own, eq_comm] using hc
theorem xP3 (hl : ρ.length = h.length) {T : TypeId} {τ : TC} {xs : List τ.ty} (hw : 0 < τ.w) {us : List Value} (hd : DenL ρ (flat τ xs) us) {arr : Array Value} {cap : Nat} (h1 : xs.length <= cap) (h2 : cap <= maxLen) (h3 : arr.size = cap * τ.w) (h4 : arr.toList.take (xs.length * τ.w) = us)
  (hrun : ∀ w : World, (execOp a.eval o).run P w = .ok (.value (.slice (some ⟨w.heap.size, 0, none⟩) xs.length cap)) (w.alloc (.cells arr T (0, 0)))) :
  xLw P ρ h a o (.c (.sl h.length τ.w 0 none none)) (h ++ [.rows T τ xs]) := by
 refine ⟨_, fun b => ⟨some ⟨b, 0, none⟩, cap, some xs.length, .nilFunc⟩, fun b => .slice (some ⟨b, 0, none⟩) xs.length cap, .cells arr T (0, 0), rfl, hrun, fun w1 b hb => ⟨⟨rfl, hw, us, hd.mono (Pre.app _ _), ?_, h1, h2, .inr ⟨b, 0, arr, rfl, hb, (by show 0 + cap * τ.w <= arr.size; omega), by simpa using h4⟩⟩, ⟨_, _, cap, xs.length, xQU hl _, rfl, h1, h2, fun _ => ⟨b, 0, rfl⟩, ⟨_, rfl, (Nat.sub_zero _).symm⟩, ⟨_, rfl, by omega⟩, (Nat.sub_zero _).symm, rfl, fun _ => rfl, fun _ => ?_⟩, fun c hc => ?_, fun _ => rfl, rfl⟩⟩
 ·rw [hd.len, xCY]
 ·simp [Addr.add]
 ·simpa [foot, own, eq_comm] using hc
theorem xZm (hK : KOk N D ρ K a) (hl : ρ.length = h.length) {t : TypeId} {l c : Operand} (ho : o.op = .makeSlice t l c) {g : List Bool} {v : PV} {h2 : List Root} {tt : List Nat} (hs : xSJ P K h t l c = .mem g v h2 tt) (hg : AllB g) : xLw P ρ h a o v h2 := by
 have exec : ∀ {v : Value} {w w' : World}, (Instr.makeSlice t (a.eval l) (a.eval c)).run P w = .ok v w' -> (execOp a.eval o).run P w = .ok (.value v) w' := by
  intro v w w' hr;unfold execOp;simp only [ho];simp [Sem.run_bind, hr, Result.andThen]
 unfold xSJ at hs;split at hs
 ·rename_i e hd;split at hs
  ·rename_i inf z hi hz;obtain ⟨zv, hzv, hzd⟩ := xCq (ρ := ρ) hz hi
   cases hc : (Nat.beq z.length inf.size && xKv inf.bytes && Nat.beq inf.size (xBv P 20 e).w && Nat.ble 1 inf.size) with
   | false => rw [hc] at hs; cases hs
   | true =>
    rw [hc] at hs;simp only [Bool.and_eq_true] at hc;obtain ⟨⟨⟨hc1, hc2⟩, hc3⟩, hc4⟩ := hc;have hzs : zv.cells.size = inf.size := by
     have h1 := hzd.len;have h2 := nbT hc1;simp at h1; omega
    have hsm : 1000000 * inf.bytes <= 140737488355328 := Nat.le_of_ble_eq_true hc2;have hsz := nbT hc3;have hpos := Nat.le_of_ble_eq_true hc4;have hbytes : ∀ q : Int, 0 <= q -> q <= 1000000 -> (inf.bytes : Int) * q <= 281474976710656 := fun q h0 hq => by
     have h1 := Nat.mul_le_mul_left inf.bytes (show q.toNat <= 1000000 by omega);have h2 : ((inf.bytes * q.toNat : Nat) : Int) <= 281474976710656 := by
      rw [Nat.mul_comm inf.bytes 1000000] at h1; omega
     rw [Int.natCast_mul] at h2;rwa [Int.toNat_of_nonneg h0] at h2
    simp only [cond_true] at hs;split at hs
    ·rename_i x y z0 hlx hcv hz0;have h5 : a.eval l = .int .i64 x := xAL (ρ := ρ) (xAa hK hlx);have h6 : a.eval c = .int .i64 y := xAL (ρ := ρ) (xAa hK hcv)
     cases hb : xSw l c with
     | true =>
      rw [hb] at hs;have hb' := xQE hb;subst hb';simp only [cond_true] at hs;rw [hlx] at hcv;cases hcv;cases hs;have hg1 : 0 <= x /\ x <= 1000000 := by simpa using hg.1
      have e2 := TC.dec1_enc hz0;have hn : (List.replicate x.toNat z0).length = x.toNat := List.length_replicate;have hdl : DenL ρ (flat (xBv P 20 e) (List.replicate x.toNat z0)) (madeCells zv.cells (x.toNat * inf.size)).toList := by
       rw [<- hzs, xBy, xH3, <- e2];exact xGr (xBp hzd) _
      rw [hsz];refine xP3 hl (T := e) (by omega) hdl (arr := madeCells zv.cells (x.toNat * inf.size)) (cap := x.toNat) (by rw [hn]; exact Nat.le_refl _) (by unfold maxLen; omega) (by rw [size_madeCells, hsz]) (List.take_of_length_le (by rw [hn, <- hsz, Array.length_toList, size_madeCells]; exact Nat.le_refl _)) (fun w => exec (by rw [h5, hn]; exact run_make w t e inf zv hd hi hzv .i64 .i64 x x hg1.1 (Int.le_refl _) (hbytes x hg1.1 hg1.2) (by omega)))
     | false =>
      rw [hb] at hs;simp only [cond_false] at hs;split at hs
      ·cases hs;have hg1 : 0 <= y /\ y <= 1000000 := by simpa using hg.1
       rw [hsz];refine xP3 hl (T := e) (τ := xBv P 20 e) (xs := []) (by omega) (us := []) rfl (arr := madeCells zv.cells (y.toNat * inf.size)) (cap := y.toNat) (Nat.zero_le _) (by unfold maxLen; omega) (by rw [size_madeCells, hsz]) (by simp) (fun w => exec (by rw [h5, h6]; exact run_make w t e inf zv hd hi hzv .i64 .i64 0 y (Int.le_refl _) hg1.1 (hbytes y hg1.1 hg1.2) (by omega)))
      ·cases hs
    ·cases hs
  ·cases hs
 ·cases hs
theorem xKj (hK : KOk N D ρ K a) (hl : ρ.length = h.length) {t : TypeId} {n : Nat} {parts : Array (Nat × Operand)} (ho : o.op = .buildSlice t n parts) {g : List Bool} {v : PV} {h2 : List Root} {tt : List Nat} (hs : xB9 P K h t n parts = .mem g v h2 tt) : xLw P ρ h a o v h2 := by
 have hmap : (parts.map fun (i, x) => (i, a.eval x)).toList = parts.toList.map (fun p => (p.1, a.eval p.2)) := by simp
 unfold xB9 at hs;split at hs
 ·rename_i e hd;split at hs
  ·rename_i inf z ps hi hz hp;obtain ⟨zv, hzv, hzd⟩ := xCq (ρ := ρ) hz hi
   cases hc : (Nat.beq z.length inf.size && Nat.beq inf.size (xBv P 20 e).w && Nat.ble 1 inf.size && Nat.ble (n * inf.size) 16777216) with
   | false => rw [hc] at hs; cases hs
   | true =>
    rw [hc] at hs;simp only [Bool.and_eq_true] at hc;obtain ⟨⟨⟨hc1, hc3⟩, hc4⟩, hc5⟩ := hc;have hzs : zv.cells.size = inf.size := by
     have h1 := hzd.len;have h2 := nbT hc1;simp at h1; omega
    have hsz := nbT hc3;have hpos := Nat.le_of_ble_eq_true hc4;have hmax := Nat.le_of_ble_eq_true hc5;simp only [cond_true] at hs;split at hs
    ·rename_i cs hcs;have hz0 : DenL ρ (repL n z) (madeCells zv.cells (n * inf.size)).toList := by
      rw [<- hzs, xBy];exact xGr hzd _
     obtain ⟨out, h3, h4⟩ := xD8 hK hp (fun i => some (i * inf.size, inf.size)) _ (madeCells zv.cells (n * inf.size)) cs hz0 hcs;have fin : ∀ (τ : TC) (xs : List τ.ty) (cs' : List CV), DenL ρ cs' out.toList -> xEU τ n cs' = some xs -> inf.size = τ.w -> xLw P ρ h a o (.c (.sl h.length inf.size 0 none none)) (h ++ [.rows e τ xs]) := by
      intro τ xs cs' h3 hxs hsz;obtain ⟨e1, e2⟩ := xEg hxs;have hos : out.size = n * inf.size := by
       have h5 := h3.len;rw [e1, xCY, e2, <- hsz] at h5;simpa using h5
      have hm0 : ∀ zz : Array Value, n * inf.size = 0 -> (Array.range (n * inf.size)).map (fun x => zz[x % zz.size]!) = madeCells zv.cells (n * inf.size) := by
       intro zz h0; rw [h0]; simp [madeCells]
      have hrun : ∀ w : World, (execOp a.eval o).run P w = .ok (.value (.slice (some ⟨w.heap.size, 0, none⟩) n n)) (w.alloc (.cells out e (0, 0))) := by
       intro w;have hzv2 : (zeroValue e).run P w = .ok zv w := by simp [zeroValue, typeInfo, hi, hzv, Sem.run_bind, Result.andThen]
       unfold execOp;simp only [ho];have hlim : ¬ (n * inf.size > 2 ^ 24) := by omega
       have h4' : Instr.fill (fun i => some (i * inf.size, inf.size)) (madeCells zv.cells (n * inf.size)) (parts.map fun (i, x) => (i, a.eval x)).toList = some out := by rw [hmap]; exact h4
       by_cases h0 : n * inf.size = 0
       ·simp only [Instr.buildSlice, Sem.run_bind, run_underlying hd, Result.andThen_ok, xAm hi, if_neg hlim, Sem.run_pure, if_pos h0, hm0 _ h0, h4'];rfl
       ·have h4'' : Instr.fill (fun i => some (i * inf.size, inf.size)) ((Array.range (n * inf.size)).map (fun x => zv.cells[x % zv.cells.size]!)) (parts.map fun (i, x) => (i, a.eval x)).toList = some out := h4';simp only [Instr.buildSlice, Sem.run_bind, run_underlying hd, Result.andThen_ok, xAm hi, if_neg hlim, Sem.run_pure, if_neg h0, hzv2, h4''];rfl
      have hmax2 : n <= maxLen := by
       unfold maxLen;have := Nat.le_mul_of_pos_right n hpos;omega
      rw [hsz];exact xP3 hl (T := e) (by omega) (us := out.toList) (by rw [<- e1]; exact h3) (arr := out) (cap := n) (by rw [e2]; exact Nat.le_refl _) hmax2 (by rw [hos, hsz]) (List.take_of_length_le (by rw [Array.length_toList, e2, <- hsz, hos]; exact Nat.le_refl _)) (fun w => by rw [e2]; exact hrun w)
     split at hs
     ·rename_i xs hxs;cases hs;exact fin _ xs _ (xBp h3) hxs hsz
     ·cases hrw : Nat.beq (xPh (xBv P 20 e)).w (xBv P 20 e).w with
      | false => rw [hrw] at hs; cases hs
      | true =>
       rw [hrw] at hs;simp only [cond_true] at hs;split at hs
       ·rename_i xs hxs;cases hs;exact fin _ xs _ h3 hxs (by rw [hsz, nbT hrw])
       ·cases hs
    ·cases hs
  ·cases hs
 ·cases hs
theorem xSb {P : Program} {K : Slo} {h : List Root} {o : Oper} (ha : xBW o = true) : stepM P K h o = xCF P K h o := by
 refine xO0 ?_;unfold xBW at ha;unfold ghost;split at ha
 ·split at ha <;> first | (rename_i ho; rw [ho]; done) | (cases ha; done)
 ·cases ha
theorem al_ok (hK : KOk N D ρ K a) (hl : ρ.length = h.length) (ha : xBW o = true) {g : List Bool} {v : PV} {h2 : List Root} {t : List Nat} (hs : stepM P K h o = .mem g v h2 t) (hg : AllB g) : xLw P ρ h a o v h2 := by
 rw [xSb ha] at hs;unfold xBW at ha;split at ha
 ·split at ha
  ·rename_i T ho;unfold xCF at hs;rw [ho] at hs;simp only at hs;split at hs
   ·rename_i cs hz;cases hs;obtain ⟨x, h1, h2⟩ := xHL (ρ := ρ) hz;refine al_blk hl (arr := x.cells) h1 (fun w => ?_);unfold execOp;simp only [ho];simp only [Instr.alloc, Sem.run_bind, h2 w, Result.andThen_ok, Sem.run_pure];rfl
   ·cases hs
  ·rename_i T x ho;unfold xCF at hs;rw [ho] at hs;simp only at hs;split at hs
   ·rename_i cs hx;cases hs;obtain ⟨p, h1, h2⟩ := Option.bind_eq_some_iff.1 hx;refine al_blk hl (arr := (a.eval x).cells) (xGe (xAa hK h1) h2) (fun w => ?_);unfold execOp;simp only [ho];rfl
   ·cases hs
  ·rename_i t n parts ho;unfold xCF at hs;rw [ho] at hs;exact xKj hK hl ho hs
  ·rename_i t l c ho;unfold xCF at hs;rw [ho] at hs;exact xZm hK hl ho hs hg
  ·cases ha
 ·cases ha
end
end
open Go.RowKit
section
variable {P : Program} {ops : Array Oper} {Q : Exit -> Act -> World -> Prop}
abbrev Gs := List (Nat × (World -> Prop))
def xVV (ops : Array Oper) (G : Gs) (i : Nat) (w w' : World) : Prop := ∀ p ∈ G, waits .any ops ops.size i p.1 = false -> p.2 w -> p.2 w'
def xDb (P : Program) (ops : Array Oper) (Q : Exit -> Act -> World -> Prop) (G : Gs) : Nat -> Array Bool -> Act -> World -> Prop
 | 0, listed, a, w => Region.ready .any ops listed = [] /\ Q .normal a w
 | fuel + 1, listed, a, w =>
  (Region.ready .any ops listed = [] -> Q .normal a w) /\
  ∀ i ∈ Region.ready .any ops listed, wpOp P ops Q i (fun a' w' => xVV ops G i w w' /\ xDb P ops Q G fuel (listed.setIfInBounds i true) a' w') a w
theorem xGi {G : Gs} : ∀ (fuel : Nat) (listed : Array Bool) (a : Act) (w : World), xDb P ops Q G fuel listed a w -> wpAny P .any ops Q fuel listed a w
 | 0, _, _, _, h => h
 | fuel + 1, _, _, _, h => ⟨h.1, fun i hi => wpOp_mono (fun a' w' h' => xGi fuel _ a' w' h'.2) (h.2 i hi)⟩
theorem xH9 {G : Gs} {x : Nat × (World -> Prop)} : ∀ (fuel : Nat) (listed : Array Bool) (a : Act) (w : World), xDb P ops Q (x :: G) fuel listed a w -> xDb P ops Q G fuel listed a w
 | 0, _, _, _, h => h
 | fuel + 1, _, _, _, h => ⟨h.1, fun i hi => wpOp_mono (fun a' w' h' => ⟨fun p hp => h'.1 p (List.mem_cons_of_mem _ hp), xH9 fuel _ a' w' h'.2⟩) (h.2 i hi)⟩
theorem xH8 {G : Gs} {i : Nat} : ∀ (fuel : Nat) (listed : Array Bool) (a : Act) (w : World), xDb P ops Q G fuel listed a w -> xDb P ops Q ((i, fun _ => True) :: G) fuel listed a w
 | 0, _, _, _, h => h
 | fuel + 1, _, _, _, h => ⟨h.1, fun j hj => wpOp_mono (fun a' w' h' => ⟨fun p hp hw hT => by
   rcases List.mem_cons.1 hp with rfl | hp
   ·trivial
   ·exact h'.1 p hp hw hT, xH8 fuel _ a' w' h'.2⟩) (h.2 j hj)⟩
theorem xGS {T : World -> Prop} {G : Gs} {i : Nat} {oi : Oper} {v : Value} (hi : ops[i]? = some oi) (hsel : ∀ (j : Nat) (o : Oper) cs b, ops[j]? = some o -> o.op ≠ .select cs b)
  (hQ : ∀ c a w, Q (.panic c) (a.put oi.dst v) w -> Q (.panic c) a w) :
  ∀ (fuel : Nat) (listed : Array Bool) (a : Act) (w : World), Closed .any ops listed ->
   (∀ j oj, ops[j]? = some oj -> j ≠ i -> listed.getD j true = false -> (∀ e ∈ oj.after, Region.binds .any e = true -> e.on ≠ i) -> oi.apart ops oj = true) ->
   i ∈ Region.ready .any ops listed -> YieldsIf P ops T oi v a -> T w ->
   xDb P ops Q ((i, T) :: G) fuel (listed.setIfInBounds i true) (a.put oi.dst v) w -> xDb P ops Q G (fuel + 1) listed a w := by
 intro fuel
 induction fuel with
 | zero =>
  intro listed a w _ _ hr hy hT H;refine ⟨fun h => (by rw [h] at hr; cases hr), fun j hj => ?_⟩;by_cases hji : j = i
  ·subst hji; exact hy.wpOp hi hT ⟨fun _ _ _ h => h, H⟩
  ·have := ready_mono hj hji;rw [H.1] at this;cases this
 | succ fuel ih =>
  intro listed a w hc hfree hr hy hT H;refine ⟨fun h => (by rw [h] at hr; cases hr), fun j hj => ?_⟩;by_cases hji : j = i
  ·subst hji; exact hy.wpOp hi hT ⟨fun _ _ _ h => h, xH9 _ _ _ _ H⟩
  ·have h1 := H.2 j (ready_mono hj hji);obtain ⟨hjun, oj, hoj, hall⟩ := mem_ready.1 hj;have hil := xDP hr;have hjx : waits .any ops ops.size j i = false := by
    cases hx : waits .any ops ops.size j i with
    | false => rfl
    | true =>
     have := xGT hc ops.size j i hx (fun o ho e he hb => by rw [hoj] at ho; cases ho; exact hall e he hb);rw [hil] at this; cases this
   have hnot : ∀ e ∈ oj.after, Region.binds .any e = true -> e.on ≠ i := fun e he hb heq => by
    have h1 := hall e he hb;rw [heq, hil] at h1; cases h1
   have h2 := wpOp_putIf hoj (hfree j oj hoj hji hjun hnot) (fun cs b => hsel i oi cs b hi) (fun cs b => hsel j oj cs b hoj) hQ hy h1;have hfree' : ∀ k ok, ops[k]? = some ok -> k ≠ i -> (listed.setIfInBounds j true).getD k true = false ->
     (∀ e ∈ ok.after, Region.binds .any e = true -> e.on ≠ i) -> oi.apart ops ok = true := fun k ok hk hki hun hno => by
    refine hfree k ok hk hki ?_ hno;by_cases hjk : j = k
    ·subst hjk; exact hjun
    ·rw [getD_set_ne true hjk] at hun; exact hun
   refine wpOp_mono (fun a' w' h3 => ?_) h2;have hT' := h3.2.1 (i, T) (by simp) hjx hT;refine ⟨fun p hp => h3.2.1 p (List.mem_cons_of_mem _ hp), ih (listed.setIfInBounds j true) a' w' (xEI hc hj) hfree' (ready_mono hr (Ne.symm hji)) h3.1 hT' ?_⟩;rw [Array.setIfInBounds_comm _ _ hji];exact h3.2.2
def cf : List Bool -> Nat
 | [] => 0
 | b :: l => (bif b then 0 else 1) + cf l
theorem cf_set : ∀ (l : List Bool) (i : Nat), l[i]? = some false -> cf (l.set i true) + 1 = cf l
 | [], i, h => by simp at h
 | b :: l, 0, h => by
  simp only [List.getElem?_cons_zero, Option.some.injEq] at h;subst h;simp only [List.set_cons_zero, cf, cond_true, cond_false]; omega
 | b :: l, i + 1, h => by
  simp only [List.getElem?_cons_succ] at h;have := cf_set l i h;simp only [List.set_cons_succ, cf]; omega
theorem xXt : ∀ n : Nat, cf (List.replicate n false) = n
 | 0 => rfl
 | n + 1 => by rw [List.replicate_succ, cf, xXt n]; simp; omega
end
section
variable {P : Program} {N : Nat} {S F : List Nat} {W0 : World} {ρ ρ' : List Info} {K : Slo} {h h' : List Root} {w w' : World} {a : Act} {o : Oper} {ops : Array Oper} {β : Type} {r : β} {call : xAT β}
def GOk (ρ : List Info) (h : List Root) : Reads -> Gs -> Prop
 | [], G => G = []
 | (i, x) :: l, G => ∃ T G', (G = (i, T) :: G' /\ ∀ w w' : World, Ext w w' -> T w -> T w') /\ (match x with
  | none => True
  | some ids => ∃ (bs : List Nat) (w0 : World), T = (fun w' => ∀ b ∈ bs, w'.heap[b]? = w0.heap[b]?) /\ ∀ b ∈ bs, b ∈ xJw \/ ∃ id ∈ ids, ∃ r inf, h[id]? = some r /\ ρ[id]? = some inf /\ foot inf r b) /\ GOk ρ h l G'
theorem GOk.grow (hp : Pre ρ ρ') (hh : ∀ (q : Nat) (r : Root), h[q]? = some r -> h'[q]? = some r) : ∀ {Gd : Reads} {G : Gs}, GOk ρ h Gd G -> GOk ρ' h' Gd G
 | [], _, hg => hg
 | (i, none) :: l, _, ⟨T, G', e, _, h2⟩ => ⟨T, G', e, trivial, h2.grow hp hh⟩
 | (i, some ids) :: l, _, ⟨T, G', e, ⟨bs, w0, e2, h1⟩, h2⟩ => ⟨T, G', e, ⟨bs, w0, e2, fun b hb => by
   rcases h1 b hb with hg | ⟨id, hid, r, inf, g1, g2, g3⟩
   ·exact .inl hg
   ·exact .inr ⟨id, hid, r, inf, hh _ _ g1, hp _ _ g2, g3⟩⟩, h2.grow hp hh⟩
theorem xW3 {l m : List Nat} (hd : disj l m = true) {x : Nat} (hx : x ∈ l) : x ∉ m := fun hm => by
 simp only [disj, List.all_eq_true, Bool.not_eq_true'] at hd;have := hd x hx x hm;rw [Nat.beq_refl] at this; cases this
theorem GOk.ext {i : Nat} (hE : Ext w w') : ∀ {Gd : Reads} {G : Gs}, GOk ρ h Gd G -> xVV ops G i w w'
 | [], G, hg => by rw [show G = [] from hg]; intro p hp; cases hp
 | (j, x) :: l, G, ⟨T, G', ⟨e, hs⟩, h1, h2⟩ => by
  subst e;intro p hp hw hT;rcases List.mem_cons.1 hp with rfl | hp
  ·exact hs w w' hE hT
  ·exact GOk.ext hE h2 p hp hw hT
theorem xLt {i : Nat} {t : List Nat} (hh : HOk S F W0 ρ h w) {B : List Nat} (hE : Ex B w w') (hB : ∀ b ∈ B, ∃ p ∈ t, ∃ r i, h[p]? = some r /\ ρ[p]? = some i /\ own i r b) : ∀ {Gd : Reads} {G : Gs}, GOk ρ h Gd G -> calm ops Gd i t = true -> xVV ops G i w w'
 | [], G, hg, _ => by rw [show G = [] from hg]; intro p hp; cases hp
 | (j, x) :: l, G, ⟨T, G', ⟨e, _⟩, h1, h2⟩, hc => by
  subst e;simp only [calm, List.all_cons, Bool.and_eq_true] at hc;have ih := xLt hh hE hB h2 hc.2;intro p hp hw hT;rcases List.mem_cons.1 hp with rfl | hp
  ·have hx := hc.1;rw [show waits .any ops ops.size i j = false from hw, Bool.or_false] at hx
   cases x with
   | none => cases hx
   | some ids =>
    obtain ⟨bs, w0, e2, h3⟩ := h1;subst e2;intro b hb;rcases h3 b hb with hgb | ⟨id, hid, r, inf, g1, g2, g3⟩
    ·have hnB : b ∉ B := fun hbB => by
      obtain ⟨p', hp', r', i', k1, k2, k3⟩ := hB b hbB;exact hh.own_gBlk k1 k2 k3 hgb
     rw [hE.block b (hh.outW hgb) hnB];exact hT b hb
    have hnB : b ∉ B := fun hbB => by
     obtain ⟨p', hp', r', i', k1, k2, k3⟩ := hB b hbB;have hne : p' ≠ id := fun e => xW3 hx hid (e ▸ hp');exact hh.sep p' id r' r i' inf b hne k1 g1 k2 g2 k3 g3
    rw [hE.block b ((hh.ok id r inf g1 g2).lt g3) hnB];exact hT b hb
  ·exact ih p hp hw hT
theorem GOk.after {t : List Nat} (hh : HOk S F W0 ρ h w) (hp : Pre ρ ρ') (hsame : ∀ q : Nat, q ∉ t -> q < h.length -> h'[q]? = h[q]?) : ∀ {Gd : Reads} {G : Gs}, GOk ρ h Gd G -> GOk ρ' h' (xOT t Gd) G
 | [], _, hg => hg
 | (i, none) :: l, _, ⟨T, G', e, _, h2⟩ => ⟨T, G', e, trivial, GOk.after hh hp hsame h2⟩
 | (i, some ids) :: l, _, ⟨T, G', e, ⟨bs, w0, e2, h1⟩, h2⟩ => by
  refine ⟨T, G', e, ?_, GOk.after hh hp hsame h2⟩;dsimp only
  cases hd : disj ids t with
  | false => dsimp only [cond_false]
  | true =>
   dsimp only [cond_true];refine ⟨bs, w0, e2, fun b hb => ?_⟩;rcases h1 b hb with hg | ⟨id, hid, r, inf, g1, g2, g3⟩
   ·exact .inl hg
   refine .inr ⟨id, hid, r, inf, ?_, hp _ _ g2, g3⟩;rw [hsame id (xW3 hd hid) (List.getElem?_eq_some_iff.1 g1).1];exact g1
structure EOk (P : Program) (ops : Array Oper) (W0 : World) (ρ : List Info) (h : List Root) (a : Act) (w : World) (e b : Nat) : Prop where
 ex : ∃ (oe : Oper) (d : Nat) (obj : Obj) (mk : Nat -> Value), ops[e]? = some oe /\ oe.dst = some d /\ a.tmps[d]? = some (mk b) /\ w.heap[b]? = some obj /\ Region.wanted oe (yielded ops a.tmps) = true /\ ∀ w : World, (execOp a.eval oe).run P w = .ok (.value (mk w.heap.size)) (w.alloc obj)
 new : W0.heap.size <= b
 apart : ∀ (id : Nat) (r : Root) (i : Info), h[id]? = some r -> ρ[id]? = some i -> ¬ foot i r b
theorem EOk.put (hsel : ∀ (j : Nat) (o : Oper) cs b, ops[j]? = some o -> o.op ≠ .select cs b) {e b : Nat} (he : EOk P ops W0 ρ h a w e b) {oi : Oper} {u : Value} (hap : ∀ oe, ops[e]? = some oe -> oi.apart ops oe = true) : EOk P ops W0 ρ h (a.put oi.dst u) w e b := by
 obtain ⟨oe, d, obj, mk, h1, h2, h3, h4, h6, h5⟩ := he.ex;obtain ⟨g1, g2, g3⟩ := Oper.apart_spec (hap oe h1);refine ⟨⟨oe, d, obj, mk, h1, h2, ?_, h4, by rw [wanted_put oe a oi.dst u g1]; exact h6, fun w => ?_⟩, he.new, he.apart⟩
 ·cases hd : oi.dst with
  | none => exact h3
  | some x =>
   have hne : x ≠ d := fun e => g2 x hd (by rw [h2, e]);simp only [Act.put];rw [Array.getElem?_setIfInBounds_ne hne];exact h3
 ·rw [execOp_put oe (fun cs b => hsel e oe cs b h1) a oi.dst u g1];exact h5 w
theorem EOk.world {e b : Nat} (he : EOk P ops W0 ρ h a w e b) {B : List Nat} (hE : Ex B w w') (hB : b ∉ B) : EOk P ops W0 ρ h a w' e b := by
 obtain ⟨oe, d, obj, mk, h1, h2, h3, h4, h6, h5⟩ := he.ex;exact ⟨⟨oe, d, obj, mk, h1, h2, h3, hE.heap hB h4, h6, h5⟩, he.new, he.apart⟩
def ESk (ops : Array Oper) (a : Act) (e : Nat) : Prop :=
 ∃ (oe : Oper) (d : Nat), ops[e]? = some oe /\ oe.dst = some d /\ a.tmps[d]? = some undef /\ Region.wanted oe (yielded ops a.tmps) = false
theorem ESk.put {e : Nat} (he : ESk ops a e) {oi : Oper} {u : Value} (hap : ∀ oe, ops[e]? = some oe -> oi.apart ops oe = true) : ESk ops (a.put oi.dst u) e := by
 obtain ⟨oe, d, h1, h2, h3, h6⟩ := he;obtain ⟨g1, g2, g3⟩ := Oper.apart_spec (hap oe h1);refine ⟨oe, d, h1, h2, ?_, by rw [wanted_put oe a oi.dst u g1]; exact h6⟩
 cases hd : oi.dst with
 | none => exact h3
 | some x =>
  have hne : x ≠ d := fun e => g2 x hd (by rw [h2, e]);simp only [Act.put];rw [Array.getElem?_setIfInBounds_ne hne];exact h3
def EOkO (P : Program) (ops : Array Oper) (W0 : World) (ρ : List Info) (h : List Root) (a : Act) (w : World) (e : Nat) : Nat -> Prop
 | 0 => ESk ops a e
 | b + 1 => EOk P ops W0 ρ h a w e b
theorem EOkO.put (hsel : ∀ (j : Nat) (o : Oper) cs b, ops[j]? = some o -> o.op ≠ .select cs b) {e : Nat} : ∀ {b : Nat} (_ : EOkO P ops W0 ρ h a w e b) {oi : Oper} {u : Value} (_ : ∀ oe, ops[e]? = some oe -> oi.apart ops oe = true), EOkO P ops W0 ρ h (a.put oi.dst u) w e b
 | 0, he, _, _, hap => ESk.put he hap
 | _ + 1, he, _, _, hap => EOk.put hsel he hap
end
end Go.Proofs.YtnomnijhlbalaaaGreatDoor
