/- A part of the proofs of laws of the chapter office: an evaluator of the program, proved sound, and what it says. -/
import Derived.Test.YtkdnaejhpcibnaaGreatDoorAvStr
import Derived.KernelRfl
set_option linter.unusedVariables false
set_option linter.unusedSimpArgs false
namespace Go.Proofs.YtkdnaejhpcibnaaGreatDoor.Av
open Go
def xD (s bytes : Nat) (z : List Value) : ACode:=(.seq (.region false [] [⟨(some 2),.mov (.lit nilS),none⟩]) (.nilIf 0 3 4 (.seq (.region false [] [⟨(some 2),.mov (.lit nilS),none⟩]) .ret) (.seq (.region false [] [⟨(some 5),.buildSl true s 0 z [],none⟩,⟨(some 6),.mov (.tmp 0),none⟩,⟨(some 7),.append s bytes (.tmp 5) (.tmp 6),none⟩,⟨(some 2),.mov (.tmp 7),none⟩]) .ret)))
theorem aK0 [GlobT] {P : Program} {T : List AFun} {α : Type} {c : α → List AV} {vi fid s bytes n : Nat} {z : List Value} {f : Bool} (hT : getF T vi = some ⟨fid,8,[.tmp 2],xD s bytes z⟩) (hc : ∀ x,(c x).length = s) (hs : 0 < s) (hb : bytes ≤ 100000)
  (hseal : ∀ (H : Heap) x,(c x).map (rJ H 0 5) = c x) (l : List α) (hl : l.length ≤ 1000000) : pv P T (n + 1) vi [.sl f (l.map c)] = some (.sl false (l.map c)):=by
 have hb1 : Nat.blt 3 8 = true:=rfl
 have hb2 : Nat.blt 4 8 = true:=rfl
 rw [aWg _ hT]
 cases l with
 | nil =>
  have happ : lW 0 [] s bytes (.sl true []) [] = some (.sl true [],[]):=by simp [lW,pG,hs,room]
  simp [hb1,hb2,xD,evC,sP,oP,mB,oL,evOp,kG,nilK,rP,putA,aA2,rd,happ,finA,uL,aIy,zF,aP6,nW,pA,mV,aIr,zG,aN5,empA,nilS,lI]
 | cons x r =>
  have happ : lW 0 [] s bytes (.sl true []) ((x :: r).map c) = some (.ms 0 (x :: r).length 0 (x :: r).length,[.blk s ((x :: r).map c)]) :=
   aMe (l':=x :: r) (x:=.sl true []) (qK (by simpa using hl)) rfl hc hs hb (.inr rfl)
  have hse : mV [.blk s ((x :: r).map c)] 0 (.ms 0 (x :: r).length 0 (x :: r).length) = .sl false ((x :: r).map c):=oJ (id:=0) (s:=s) (c:=c) (l:=x :: r) rfl (hseal _)
  generalize hys : (x :: r).map c = ys at happ hse ⊢
  obtain ⟨y,q,rfl⟩ : ∃ y q,ys = y :: q:=by
   cases ys with
   | nil => simp at hys
   | cons y q => exact ⟨y,q,rfl⟩
  generalize (x :: r).length = L at happ hse
  simp [hb1,hb2,xD,evC,sP,oP,mB,oL,evOp,kG,nilK,rP,putA,aA2,rd,happ,finA,uL,aIy,zF,aP6,nW,pA,hse,nilS,lI]
end Go.Proofs.YtkdnaejhpcibnaaGreatDoor.Av
namespace Go.Proofs.YtkdnaejhpcibnaaGreatDoor.Av
open Go
noncomputable def getK (l : List AV) : Nat → AV:=List.rec (motive:=fun _ => Nat → AV) (fun _ => .lit lI) (fun x _ ih n => Nat.rec (motive:=fun _ => AV) x (fun m _ => ih m) n) l
theorem aE2 [GlobT] : ∀ (l : List AV) (t : Nat),getK l t = match l[t]? with | some v => v | none => .lit lI
 | [],t => by simp [getK]
 | x :: r,0 => rfl
 | x :: r,t + 1 => by
  have:=aE2 r t
  simp only [List.getElem?_cons_succ]
  rw [← this]
  rfl
noncomputable def kU [GlobT] (tm : List AV) (x : AOpd) : AV:=match x with
 | .tmp t => getK tm t
 | .lit v => .lit v
 | .agg vs => .agg (vs.map .lit)
 | .fn vi => .fn vi []
 | .glob g => match GlobT.tab g with | some cs => .rptr cs | none => .undef
theorem qW [GlobT] (tm : List AV) (x : AOpd) : kU tm x = kG tm x:=by
 cases x with
 | tmp t => simp only [kU,aE2,kG]; rfl
 | _ => rfl
theorem aIu [GlobT] (tm : List AV) : kU tm = kG tm:=funext (qW tm)
noncomputable def vE [GlobT] (tm : List AV) (x : Option AOpd) : Option (Option Nat):=match x with
 | none => some none
 | some x => match oI (kU tm x) with | some n => some (some n) | none => none
theorem aLo [GlobT] (tm : List AV) (x : Option AOpd) : vE tm x = nY tm x:=by
 cases x <;> simp only [vE,nY,qW] <;> rfl
def bA0 (cf : Nat → Nat → List AV → Heap → Option (AV × Heap)) (vi : Nat) (args : List AV) (H : Heap) : Option (AV × Heap):=match cf 0 vi args [] with
 | some (r,H') => match aHx (nW H' 0 r) with
  | true => some (nW H' 0 r,H)
  | false => none
 | none => none
def aPq (mem : Nat → List AV → Option AV) (cf : Nat → Nat → List AV → Heap → Option (AV × Heap)) (vi : Nat) (args : List AV) (H : Heap) : Option (AV × Heap) :=
 match mem vi args with
 | some r => match aHx r with
  | true => some (r,H)
  | false => none
 | none => bA0 cf vi args H
def aRt (mem : Nat → List AV → Option AV) (cf : Nat → Nat → List AV → Heap → Option (AV × Heap)) (fl : Nat) (pu : Bool) (vi : Nat) (args : List AV) (H : Heap) : Option (AV × Heap) :=
 match pu with
 | true => match mW args with
  | true => match mem vi (args.map nrm2) with
   | some r => some (r,H)
   | none => nH cf fl true vi args H
  | false => nH cf fl true vi args H
 | false => cf fl vi args H
def zJ (mem : Nat → List AV → Option AV) (cf : Nat → Nat → List AV → Heap → Option (AV × Heap)) : Prop :=
 ∀ vi args r,mem vi args = some r → (match cf 0 vi args [] with | some (r',H') => some (nW H' 0 r') | none => none) = some r
theorem aPp {mem : Nat → List AV → Option AV} {cf : Nat → Nat → List AV → Heap → Option (AV × Heap)} (h : zJ mem cf) (vi : Nat) (args : List AV) (H : Heap) : aPq mem cf vi args H = match cf 0 vi args [] with
  | some (r,H') => match aHx (nW H' 0 r) with
   | true => some (nW H' 0 r,H)
   | false => none
  | none => none:=by
 unfold aPq
 cases hm : mem vi args with
 | none => rfl
 | some r =>
  have:=h vi _ r hm
  cases hc : cf 0 vi args [] with
  | none => rw [hc] at this; cases this
  | some x =>
   rw [hc] at this
   simp only [Option.some.injEq] at this ⊢
   rw [this]
theorem aRs {mem : Nat → List AV → Option AV} {cf : Nat → Nat → List AV → Heap → Option (AV × Heap)} (h : zJ mem cf) (fl : Nat) (pu : Bool) (vi : Nat) (args : List AV) (H : Heap) : aRt mem cf fl pu vi args H = nH cf fl pu vi args H:=by
 unfold aRt
 cases pu with
 | false => rfl
 | true =>
  simp only
  cases hp : mW args with
  | false => rfl
  | true =>
   simp only
   cases hm : mem vi (args.map nrm2) with
   | none => rfl
   | some r =>
    have:=h vi _ r hm
    unfold nH
    simp only [hp]
    cases hc : cf 0 vi (args.map nrm2) [] with
    | none => rw [hc] at this; cases this
    | some x =>
     rw [hc] at this
     simp only [Option.some.injEq] at this ⊢
     rw [this]
section
variable (P : Program) (cf : Nat → Nat → List AV → Heap → Option (AV × Heap)) (fl : Nat) (mem : Nat → List AV → Option AV)
noncomputable def aUp [GlobT] (x : AOpd) (tm : List AV) (H : Heap) : Option (AV × Heap):=some (kU tm x,H)
noncomputable def aNu [GlobT] (x : AOpd) (tm : List AV) (H : Heap) : Option (AV × Heap):=some (nrm2 (kU tm x),H)
noncomputable def aNt [GlobT] (c : AOpd) (a : AOpd) (b : AOpd) (tm : List AV) (H : Heap) : Option (AV × Heap):=match kU tm c with
  | .lit (.bool t) => some (if t then kU tm a else kU tm b,H)
  | _ => none
noncomputable def aIq (z : List Value) (tm : List AV) (H : Heap) : Option (AV × Heap):=some (.ptr H.length 1 0 0,H ++ [.blk z.length [z.map .lit]])
noncomputable def aIl (s : Nat) (tm : List AV) (H : Heap) : Option (AV × Heap):=some (.ms H.length 0 0 0,H ++ [.blk s []])
noncomputable def aEw (z : List Value) (cl : List (Nat × Nat)) (tm : List AV) (H : Heap) : Option (AV × Heap):=some (.ptr (H.length + cl.length) 1 0 0,
   (H ++ cl.map fun c => .blk c.2 []) ++ [.blk z.length [nT H.length (z.map .lit) cl]])
noncomputable def aUq [GlobT] (x : AOpd) (tm : List AV) (H : Heap) : Option (AV × Heap):=match cellsOf (kU tm x) with
  | some cs => some (.ptr H.length 1 0 0,H ++ [.blk cs.length [cs]])
  | none => none
noncomputable def aIp [GlobT] (z : List Value) (parts : List (Nat × Nat × AOpd)) (tm : List AV) (H : Heap) : Option (AV × Heap):=match aIx (z.map .lit) (parts.map fun (o,s,x) => (o,s,kU tm x)) with
  | some cs => some (.agg cs,H)
  | none => none
noncomputable def aAs [GlobT] (pu : Bool) (s : Nat) (n : Nat) (z : List Value) (parts : List (Nat × AOpd)) (tm : List AV) (H : Heap) : Option (AV × Heap):=match aA2 s (List.replicate n (z.map .lit)) (parts.map fun (i,x) => (i,kU tm x)) with
  | some es => if pu then some (.sl true (es.map fun e => e.map toP),H) else some (.ms H.length n 0 n,H ++ [.blk s es])
  | none => none
noncomputable def aNw [GlobT] (agg : Bool) (n : Nat) (x : AOpd) (tm : List AV) (H : Heap) : Option (AV × Heap):=match oD H (kU tm x) n with
  | some cs => if agg then some (.agg cs,H) else match cs with
   | [c] => some (c,H)
   | _ => none
  | none => none
noncomputable def aIf [GlobT] (n : Nat) (x : AOpd) (v : AOpd) (tm : List AV) (H : Heap) : Option (AV × Heap):=match cellsOf (kU tm v) with
  | some cs => if cs.length = n then match vA fl H (kU tm x) cs with
    | some H' => some (.lit lI,H')
    | none => none
   else none
  | none => none
noncomputable def xZ [GlobT] (x : AOpd) (tm : List AV) (H : Heap) : Option (AV × Heap):=match kU tm x with
  | .ptr .. => some (kU tm x,H)
  | .rptr _ => some (kU tm x,H)
  | .fn .. => some (kU tm x,H)
  | _ => none
noncomputable def aN0 [GlobT] (op : BinOp) (x : AOpd) (y : AOpd) (tm : List AV) (H : Heap) : Option (AV × Heap):=match kU tm x,kU tm y with
  | .lit (.int k a),.lit (.int k' b) => if k = k' then match aLt op k a b with
    | some v => some (.lit v,H)
    | none => none
   else none
  | _,_ => none
noncomputable def aUr [GlobT] (op : BinOp) (t : TypeId) (x : AOpd) (y : AOpd) (tm : List AV) (H : Heap) : Option (AV × Heap):=match lits (kU tm x),lits (kU tm y) with
  | some v,some u => match (if qS v then kM P (eqGuard op t (.tmp 0) (.tmp 0) v u) else none) with
   | some _ => match kM P (binOp op t v u) with
    | some r => some (.lit r,H)
    | none => none
   | none => none
  | _,_ => none
noncomputable def k_un [GlobT] (op : UnOp) (x : AOpd) (tm : List AV) (H : Heap) : Option (AV × Heap):=match kU tm x with
  | .lit v => match kM P (Op.unary op v) with
   | some r => some (.lit r,H)
   | none => none
  | _ => none
noncomputable def aN2 [GlobT] (src : TypeId) (dst : TypeId) (x : AOpd) (tm : List AV) (H : Heap) : Option (AV × Heap):=match kU tm x with
  | .lit v => match kM P (convert src dst v) with
   | some r => some (.lit r,H)
   | none => none
  | .sl _ es => match aEx P src dst with
   | true => match uY es with
    | some ns => some (.lit (.string (uM ns)),H)
    | none => none
   | false => none
  | _ => none
noncomputable def vH [GlobT] (off : Nat) (x : AOpd) (tm : List AV) (H : Heap) : Option (AV × Heap):=match kU tm x with
  | .ptr id tot idx o => some (.ptr id tot idx (o + off),H)
  | .rptr cs => some (.rptr (cs.drop off),H)
  | _ => none
noncomputable def aIk [GlobT] (agg : Bool) (n : Nat) (off : Nat) (x : AOpd) (tm : List AV) (H : Heap) : Option (AV × Heap):=match kU tm x with
  | .agg cs => if off + n ≤ cs.length then
    if agg then some (.agg ((cs.drop off).take n),H) else match (cs.drop off).take n with
     | [c] => some (c,H)
     | _ => none
   else none
  | _ => none
noncomputable def aAq [GlobT] (s : Nat) (x : AOpd) (i : AOpd) (tm : List AV) (H : Heap) : Option (AV × Heap):=match oI (kU tm i) with
  | some i => match kU tm x with
   | .sl _ es => match es[i]? with
    | some e => if e.length = s then some (.rptr e,H) else none
    | none => none
   | .ms id tot off len => match H[id]? with
    | some (.blk s' es) => if s' = s ∧ es.length = tot ∧ i < len then some (.ptr id tot (off + i) 0,H) else none
    | _ => none
   | _ => none
  | none => none
noncomputable def aEs [GlobT] (s : Nat) (n : Nat) (x : AOpd) (i : AOpd) (tm : List AV) (H : Heap) : Option (AV × Heap):=match oI (kU tm i) with
  | some i => if i < n then match kU tm x with
    | .ptr id tot idx o => some (.ptr id tot idx (o + i * s),H)
    | .rptr cs => some (.rptr (cs.drop (i * s)),H)
    | _ => none
   else none
  | none => none
noncomputable def aIj [GlobT] (agg : Bool) (s : Nat) (n : Nat) (x : AOpd) (i : AOpd) (tm : List AV) (H : Heap) : Option (AV × Heap):=match oI (kU tm i) with
  | some i => if i < n then match kU tm x with
    | .agg cs => if i * s + s ≤ cs.length then
      if agg then some (.agg ((cs.drop (i * s)).take s),H) else match (cs.drop (i * s)).take s with
       | [c] => some (c,H)
       | _ => none
     else none
    | _ => none
   else none
  | none => none
noncomputable def aEn [GlobT] (t : TypeId) (x : AOpd) (i : AOpd) (tm : List AV) (H : Heap) : Option (AV × Heap):=match kU tm x,kU tm i with
  | .lit v,.lit u => match kM P (Instr.index t v u) with
   | some r => some (.lit r,H)
   | none => none
  | _,_ => none
noncomputable def aIg [GlobT] (s : Nat) (x : AOpd) (lo : Option AOpd) (hi : Option AOpd) (mx : Option AOpd) (tm : List AV) (H : Heap) : Option (AV × Heap):=match vE tm lo,vE tm hi,vE tm mx with
  | some lo,some hi,some mx => match uN H s (kU tm x) lo hi mx with
   | some v => some (v,H)
   | none => none
  | _,_,_ => none
noncomputable def xX [GlobT] (u0 : TypeId) (x : AOpd) (lo : Option AOpd) (hi : Option AOpd) (tm : List AV) (H : Heap) : Option (AV × Heap):=match kU tm x,vE tm lo,vE tm hi with
  | .lit (.string s),some lo,some hi =>
   if lo.getD 0 ≤ hi.getD s.size ∧ hi.getD s.size ≤ s.size then some (.lit (.string (s.extract (lo.getD 0) (hi.getD s.size))),H) else none
  | _,_,_ => none
noncomputable def aAp [GlobT] (s : Nat) (z : List Value) (bytes : Nat) (len : AOpd) (cap : AOpd) (tm : List AV) (H : Heap) : Option (AV × Heap):=match oI (kU tm len),oI (kU tm cap) with
  | some l,some c => if l ≤ c ∧ c * bytes ≤ 2 ^ 40 ∧ c ≤ 2 ^ 40 ∧ z.length = s then
    some (.ms H.length l 0 l,H ++ [.blk s (List.replicate l (z.map .lit))]) else none
  | _,_ => none
noncomputable def aIh (tm : List AV) (H : Heap) : Option (AV × Heap):=some (.mp H.length,H ++ [.mp []])
noncomputable def aEq [GlobT] (kt : TypeId) (z : AOpd) (m : AOpd) (k : AOpd) (ok : Bool) (tm : List AV) (H : Heap) : Option (AV × Heap):=match lits (kU tm k) with
  | some kv =>
   let r (ents : List (Value × AV)) : Option (AV × Heap) :=
    match kM P (Instr.checkKey ents.isEmpty 10000 kt kv),pT P kt kv ents with
    | some _,some (some i) => match ents[i]? with
     | some e => some (if ok then .tup [e.2,.lit (.bool true)] else e.2,H)
     | none => none
    | some _,some none => some (if ok then .tup [kU tm z,.lit (.bool false)] else kU tm z,H)
    | _,_ => none
   match kU tm m with
   | .lit (.map none) => r []
   | .mp id => match H[id]? with
    | some (.mp ents) => r ents
    | _ => none
   | _ => none
  | none => none
noncomputable def aEp [GlobT] (kt : TypeId) (m : AOpd) (k : AOpd) (v : AOpd) (tm : List AV) (H : Heap) : Option (AV × Heap):=match lits (kU tm k),kU tm m with
  | some kv,.mp id => if fl ≤ id then match H[id]? with
    | some (.mp ents) => match kM P (Instr.checkKey false 10000 kt kv),pT P kt kv ents with
     | some _,some (some i) => match ents[i]? with
      | some e => if Instr.sameBits 10000 e.1 kv then some (.lit lI,H.set id (.mp (ents.set i (kv,kU tm v)))) else none
      | none => none
     | some _,some none => some (.lit lI,H.set id (.mp (ents ++ [(kv,kU tm v)])))
     | _,_ => none
    | _ => none
   else none
  | _,_ => none
noncomputable def aNx [GlobT] (x : AOpd) (tm : List AV) (H : Heap) : Option (AV × Heap):=match kU tm x with
  | .lit (.slice none 0 0) => some (.lit (.int .i64 0),H)
  | .sl _ es => some (.lit (.int .i64 es.length),H)
  | .ms _ _ _ len => some (.lit (.int .i64 len),H)
  | _ => none
noncomputable def aNy [GlobT] (x : AOpd) (tm : List AV) (H : Heap) : Option (AV × Heap):=match kU tm x with
  | .lit (.map none) => some (.lit (.int .i64 0),H)
  | .mp id => match H[id]? with
   | some (.mp ents) => some (.lit (.int .i64 ents.length),H)
   | _ => none
  | _ => none
noncomputable def aEr [GlobT] (t : TypeId) (x : AOpd) (tm : List AV) (H : Heap) : Option (AV × Heap):=match kU tm x with
  | .lit v => match kM P (Builtin.len_ #[t] 0 #[v]) with
   | some r => some (.lit r,H)
   | none => none
  | _ => none
noncomputable def aNz (n : Nat) (tm : List AV) (H : Heap) : Option (AV × Heap):=some (.lit (.int .i64 n),H)
noncomputable def aEv [GlobT] (s : Nat) (bytes : Nat) (x : AOpd) (y : AOpd) (tm : List AV) (H : Heap) : Option (AV × Heap):=match rd H (kU tm y) with
  | some ys => lW fl H s bytes (kU tm x) ys
  | none => none
noncomputable def aAt [GlobT] (s : Nat) (bytes : Nat) (z : List Value) (x : AOpd) (n : AOpd) (tm : List AV) (H : Heap) : Option (AV × Heap):=match oI (kU tm n) with
  | some n => if z.length = s ∧ n ≤ 2 ^ 20 ∧ n * bytes ≤ 2 ^ 40 then lW fl H s bytes (kU tm x) (List.replicate n (z.map .lit)) else none
  | none => none
noncomputable def aN1 [GlobT] (s : Nat) (x : AOpd) (y : AOpd) (tm : List AV) (H : Heap) : Option (AV × Heap):=match rd H (kU tm y) with
  | some ys => if pG s ys = true ∧ 0 < s then match kU tm x with
    | .ms id tot off len => match H[id]? with
     | some (.blk s' es) => if s' = s ∧ es.length = tot ∧ ys.length ≤ len ∧ fl ≤ id then (if ys.length = 0 then some (.lit (.int .i64 0),H) else some (.lit (.int .i64 ys.length),H.set id (.blk s (lG es off ys)))) else none
     | _ => none
    | _ => none
   else none
  | none => none
noncomputable def aEu [GlobT] (kt : TypeId) (m : AOpd) (k : AOpd) (tm : List AV) (H : Heap) : Option (AV × Heap):=match lits (kU tm k),kU tm m with
  | some kv,.mp id => if fl ≤ id then match H[id]? with
    | some (.mp ents) => match kM P (Instr.checkKey ents.isEmpty 10000 kt kv),pT P kt kv ents with
     | some _,some (some i) => some (.lit lI,H.set id (.mp (ents.eraseIdx i)))
     | some _,some none => some (.lit lI,H)
     | _,_ => none
    | _ => none
   else none
  | _,_ => none
noncomputable def aEo [GlobT] (mx : Bool) (xs : List AOpd) (tm : List AV) (H : Heap) : Option (AV × Heap):=match litL (xs.map (kU tm)) with
  | some vs => match kM P (if mx then Builtin.max_ #[] 0 vs.toArray else Builtin.min_ #[] 0 vs.toArray) with
   | some r => some (.lit r,H)
   | none => none
  | none => none
noncomputable def aNv [GlobT] (vi : Nat) (caps : List AOpd) (tm : List AV) (H : Heap) : Option (AV × Heap):=some (.fn vi (caps.map (kU tm)),H)
noncomputable def aN4 [GlobT] (pu : Bool) (vi : Nat) (args : List AOpd) (tm : List AV) (H : Heap) : Option (AV × Heap):=aRt mem cf fl pu vi (args.map (kU tm)) H
noncomputable def aIm [GlobT] (pu : Bool) (x : AOpd) (args : List AOpd) (tm : List AV) (H : Heap) : Option (AV × Heap):=match kU tm x with
  | .fn vi caps => aRt mem cf fl pu vi (args.map (kU tm) ++ caps) H
  | _ => none
noncomputable def aIo [GlobT] (vi : Nat) (args : List AOpd) (tm : List AV) (H : Heap) : Option (AV × Heap):=cf H.length vi (args.map (kU tm)) H
noncomputable def aIn [GlobT] (vi : Nat) (args : List AOpd) (tm : List AV) (H : Heap) : Option (AV × Heap):=aPq mem cf vi ((args.map (kU tm)).map (pA H 0)) H
noncomputable def aN3 [GlobT] (x : AOpd) (tm : List AV) (H : Heap) : Option (AV × Heap):=match kU tm x with
  | .lit (.slice none 0 0) => some (.lit (.int .i64 0),H)
  | .sl true es => some (.lit (.int .i64 es.length),H)
  | _ => none
noncomputable def aAr [GlobT] (x : AOpd) (i : Nat) (tm : List AV) (H : Heap) : Option (AV × Heap):=match kU tm x with
  | .tup vs => match vs[i]? with
   | some v => some (v,H)
   | none => none
  | _ => none
noncomputable def xY [GlobT] (x : AOpd) (tm : List AV) (H : Heap) : Option (AV × Heap):=match kU tm x with
  | .lit (.string s) => some (.it H.length,H ++ [.raw (.stringIter s 0)])
  | _ => none
noncomputable def aAo [GlobT] (x : AOpd) (tm : List AV) (H : Heap) : Option (AV × Heap):=match kU tm x with
  | .it id => if fl ≤ id then match H[id]? with
    | some (.raw (.stringIter s pos)) => if pos < s.size then some (.tup [.lit (.bool true),.lit (.int .i64 pos),.lit (.int .i32 (Utf8.decode s pos).1)],H.set id (.raw (.stringIter s (pos + (Utf8.decode s pos).2)))) else some (.tup [.lit (.bool false)],H)
    | _ => none
   else none
  | _ => none
noncomputable def aEt [GlobT] (x : AOpd) (tm : List AV) (H : Heap) : Option (AV × Heap):=match kU tm x with
  | .ms id tot off len => if fl ≤ id then match H[id]? with
    | some (.blk s es) => if es.length = tot then some (.sl false (((es.drop off).take len).map fun e => e.map toP),H.set id (.blk s (es ++ [List.replicate s .undef]))) else none
    | _ => none
   else none
  | v => some (v,H)
noncomputable def aAu [GlobT] (s bytes : Nat) (x y : AOpd) (tm : List AV) (H : Heap) : Option (AV × Heap):=match appP s bytes (kU tm x) (kU tm y) with
  | some v => some (v,H)
  | none => none
noncomputable def aIi [GlobT] (n k : Nat) (x : AOpd) (tm : List AV) (H : Heap) : Option (AV × Heap):=match oD H (kU tm x) n with
  | some cs => match cs[k]? with
   | some (.ms id tot off len) => if fl ≤ id then match H[id]? with
     | some (.blk s es) => if es.length = tot then some (.agg (cs.set k (.sl false (((es.drop off).take len).map fun e => e.map toP))),H.set id (.blk s (es ++ [List.replicate s .undef]))) else none
     | _ => none
    else none
   | some _ => some (.agg cs,H)
   | none => none
  | none => none
noncomputable def aRj [GlobT] (op : AOp) (tm : List AV) (H : Heap) : Option (AV × Heap) :=
 match op with
 | .mov x => aUp x tm H
 | .movN x => aNu x tm H
 | .pick c a b => aNt c a b tm H
 | .alloc z => aIq z tm H
 | .claim s => aIl s tm H
 | .allocC z cl => aEw z cl tm H
 | .box x => aUq x tm H
 | .build z parts => aIp z parts tm H
 | .buildSl pu s n z parts => aAs pu s n z parts tm H
 | .load agg n x => aNw agg n x tm H
 | .store n x v => aIf fl n x v tm H
 | .nilCheck x => xZ x tm H
 | .ibin op x y => aN0 op x y tm H
 | .bin op t x y => aUr P op t x y tm H
 | .un op x => k_un P op x tm H
 | .conv src dst x => aN2 P src dst x tm H
 | .fieldAddr off x => vH off x tm H
 | .field agg n off x => aIk agg n off x tm H
 | .idxAddr s x i => aAq s x i tm H
 | .idxArr s n x i => aEs s n x i tm H
 | .index agg s n x i => aIj agg s n x i tm H
 | .strIdx t x i => aEn P t x i tm H
 | .slice s x lo hi mx => aIg s x lo hi mx tm H
 | .strSlice u0 x lo hi => xX u0 x lo hi tm H
 | .mkSlice s z bytes len cap => aAp s z bytes len cap tm H
 | .mkMap => aIh  tm H
 | .lookup kt z m k ok => aEq P kt z m k ok tm H
 | .mapUpd kt m k v => aEp P fl kt m k v tm H
 | .lenS x => aNx x tm H
 | .lenM x => aNy x tm H
 | .lenStr t x => aEr P t x tm H
 | .lenC n => aNz n tm H
 | .append s bytes x y => aEv fl s bytes x y tm H
 | .appendZ s bytes z x n => aAt fl s bytes z x n tm H
 | .copy s x y => aN1 fl s x y tm H
 | .delete kt m k => aEu P fl kt m k tm H
 | .minmax mx xs => aEo P mx xs tm H
 | .mkFn vi caps => aNv vi caps tm H
 | .call pu vi args => aN4 cf fl mem pu vi args tm H
 | .callv pu x args => aIm cf fl mem pu x args tm H
 | .callF vi args => aIo cf vi args tm H
 | .callS vi args => aIn cf mem vi args tm H
 | .capS x => aN3 x tm H
 | .extract x i => aAr x i tm H
 | .rangeStr x => xY x tm H
 | .nextStr x => aAo fl x tm H
 | .freeze x => aEt fl x tm H
 | .loadF n k x => aIi fl n k x tm H
 | .appendP s bytes x y => aAu s bytes x y tm H
theorem aKx [GlobT] (hmem : zJ mem cf) (op : AOp) (tm : List AV) (H : Heap) : aRj P cf fl mem op tm H = evOp P cf fl op tm H:=by
 cases op <;> simp only [aRj,evOp,aUp,aNu,aNt,aIq,aIl,aEw,aUq,aIp,aAs,aNw,aIf,xZ,aN0,aUr,k_un,aN2,vH,aIk,aAq,aEs,aIj,aEn,aIg,xX,aAp,aIh,aEq,aEp,aNx,aNy,aEr,aNz,aEv,aAt,aN1,aEu,aEo,aNv,aN4,aIm,aIo,aIn,aN3,aAr,xY,aAo,aEt,aIi,aAu,qW,aLo,aIu,aRs hmem,aPp hmem] <;> first | done | rfl
structure OpF where
 f : List AV → Heap → Option (AV × Heap)
noncomputable def opF [GlobT] (op : AOp) : OpF :=
 match op with
 | .mov x => ⟨fun tm H => aUp x tm H⟩
 | .movN x => ⟨fun tm H => aNu x tm H⟩
 | .pick c a b => ⟨fun tm H => aNt c a b tm H⟩
 | .alloc z => ⟨fun tm H => aIq z tm H⟩
 | .claim s => ⟨fun tm H => aIl s tm H⟩
 | .allocC z cl => ⟨fun tm H => aEw z cl tm H⟩
 | .box x => ⟨fun tm H => aUq x tm H⟩
 | .build z parts => ⟨fun tm H => aIp z parts tm H⟩
 | .buildSl pu s n z parts => ⟨fun tm H => aAs pu s n z parts tm H⟩
 | .load agg n x => ⟨fun tm H => aNw agg n x tm H⟩
 | .store n x v => ⟨fun tm H => aIf fl n x v tm H⟩
 | .nilCheck x => ⟨fun tm H => xZ x tm H⟩
 | .ibin op x y => ⟨fun tm H => aN0 op x y tm H⟩
 | .bin op t x y => ⟨fun tm H => aUr P op t x y tm H⟩
 | .un op x => ⟨fun tm H => k_un P op x tm H⟩
 | .conv src dst x => ⟨fun tm H => aN2 P src dst x tm H⟩
 | .fieldAddr off x => ⟨fun tm H => vH off x tm H⟩
 | .field agg n off x => ⟨fun tm H => aIk agg n off x tm H⟩
 | .idxAddr s x i => ⟨fun tm H => aAq s x i tm H⟩
 | .idxArr s n x i => ⟨fun tm H => aEs s n x i tm H⟩
 | .index agg s n x i => ⟨fun tm H => aIj agg s n x i tm H⟩
 | .strIdx t x i => ⟨fun tm H => aEn P t x i tm H⟩
 | .slice s x lo hi mx => ⟨fun tm H => aIg s x lo hi mx tm H⟩
 | .strSlice u0 x lo hi => ⟨fun tm H => xX u0 x lo hi tm H⟩
 | .mkSlice s z bytes len cap => ⟨fun tm H => aAp s z bytes len cap tm H⟩
 | .mkMap => ⟨fun tm H => aIh  tm H⟩
 | .lookup kt z m k ok => ⟨fun tm H => aEq P kt z m k ok tm H⟩
 | .mapUpd kt m k v => ⟨fun tm H => aEp P fl kt m k v tm H⟩
 | .lenS x => ⟨fun tm H => aNx x tm H⟩
 | .lenM x => ⟨fun tm H => aNy x tm H⟩
 | .lenStr t x => ⟨fun tm H => aEr P t x tm H⟩
 | .lenC n => ⟨fun tm H => aNz n tm H⟩
 | .append s bytes x y => ⟨fun tm H => aEv fl s bytes x y tm H⟩
 | .appendZ s bytes z x n => ⟨fun tm H => aAt fl s bytes z x n tm H⟩
 | .copy s x y => ⟨fun tm H => aN1 fl s x y tm H⟩
 | .delete kt m k => ⟨fun tm H => aEu P fl kt m k tm H⟩
 | .minmax mx xs => ⟨fun tm H => aEo P mx xs tm H⟩
 | .mkFn vi caps => ⟨fun tm H => aNv vi caps tm H⟩
 | .call pu vi args => ⟨fun tm H => aN4 cf fl mem pu vi args tm H⟩
 | .callv pu x args => ⟨fun tm H => aIm cf fl mem pu x args tm H⟩
 | .callF vi args => ⟨fun tm H => aIo cf vi args tm H⟩
 | .callS vi args => ⟨fun tm H => aIn cf mem vi args tm H⟩
 | .capS x => ⟨fun tm H => aN3 x tm H⟩
 | .extract x i => ⟨fun tm H => aAr x i tm H⟩
 | .rangeStr x => ⟨fun tm H => xY x tm H⟩
 | .nextStr x => ⟨fun tm H => aAo fl x tm H⟩
 | .freeze x => ⟨fun tm H => aEt fl x tm H⟩
 | .loadF n k x => ⟨fun tm H => aIi fl n k x tm H⟩
 | .appendP s bytes x y => ⟨fun tm H => aAu s bytes x y tm H⟩
theorem aWo [GlobT] (op : AOp) (tm : List AV) (H : Heap) : (opF P cf fl mem op).f tm H = aRj P cf fl mem op tm H:=by cases op <;> rfl
end
end Go.Proofs.YtkdnaejhpcibnaaGreatDoor.Av
namespace Go.Proofs.YtkdnaejhpcibnaaGreatDoor.Av
open Go
section
variable {R α : Type}
def fL (f : α → (α → R) → R) : List α → (List α → R) → R
 | [],k => k []
 | x :: r,k => f x fun x => fL f r fun r => k (x :: r)
theorem rS [GlobT] {f : α → (α → R) → R} (hf : ∀ x k,f x k = k x) : ∀ (l : List α) (k : List α → R),fL f l k = k l
 | [],k => rfl
 | x :: r,k => by simp only [fL,hf,rS hf r]
def fB (b : Bool) (k : Bool → R) : R:=match b with
 | true => k true
 | false => k false
theorem aQ3 (b : Bool) (k : Bool → R) : fB b k = k b:=by cases b <;> rfl
def fN (n : Nat) (k : Nat → R) : R:=match n with
 | 0 => k 0
 | n + 1 => k (n + 1)
theorem aXf (n : Nat) (k : Nat → R) : fN n k = k n:=by cases n <;> rfl
def fI (n : Int) (k : Int → R) : R:=match n with
 | .ofNat n => fN n fun n => k (.ofNat n)
 | .negSucc n => fN n fun n => k (.negSucc n)
theorem bDu [GlobT] (n : Int) (k : Int → R) : fI n k = k n:=by cases n <;> simp only [fI,aXf]
def fV (v : Value) (k : Value → R) : R:=match v with
 | .int kd n => fI n fun n => k (.int kd n)
 | .bool b => fB b fun b => k (.bool b)
 | v => k v
theorem bDt [GlobT] (v : Value) (k : Value → R) : fV v k = k v:=by cases v <;> simp only [fV,bDu,aQ3]
def fH (x : AV) (k : AV → R) : R:=match x with
 | .lit v => fV v fun v => k (.lit v)
 | .sl f es => fB f fun f => k (.sl f es)
 | .ms a b c d => fN a fun a => fN b fun b => fN c fun c => fN d fun d => k (.ms a b c d)
 | .ptr a b c d => fN a fun a => fN b fun b => fN c fun c => fN d fun d => k (.ptr a b c d)
 | .rptr cs => k (.rptr cs)
 | .agg cs => k (.agg cs)
 | .tup cs => k (.tup cs)
 | .fn v cs => k (.fn v cs)
 | .mp i => fN i fun i => k (.mp i)
 | .it i => fN i fun i => k (.it i)
 | .undef => k .undef
theorem aLy [GlobT] (x : AV) (k : AV → R) : fH x k = k x:=by cases x <;> simp only [fH,bDt,aQ3,aXf]
def fA : Nat → AV → (AV → R) → R
 | 0,x,k => fH x k
 | d + 1,x,k => match x with
  | .sl f es => fB f fun f => fL (fL (fA d)) es fun es => k (.sl f es)
  | .rptr cs => fL (fA d) cs fun cs => k (.rptr cs)
  | .agg cs => fL (fA d) cs fun cs => k (.agg cs)
  | .tup cs => fL (fA d) cs fun cs => k (.tup cs)
  | .fn v cs => fL (fA d) cs fun cs => k (.fn v cs)
  | x => fH x k
theorem aLz [GlobT] : ∀ (d : Nat) (x : AV) (k : AV → R),fA d x k = k x
 | 0,x,k => aLy x k
 | d + 1,x,k => by
  have h:=fun x k => aLz d x k
  cases x <;> simp only [fA,aQ3,rS h,rS (rS h),aLy]
def fO (o : AObj) (k : AObj → R) : R:=match o with
 | .blk s es => fL (fL fH) es fun es => k (.blk s es)
 | .mp ents => fL (fun (e : Value × AV) k => match e with | (v,x) => fA 2 x fun x => k (v,x)) ents fun ents => k (.mp ents)
 | o => k o
theorem aQ2 [GlobT] (o : AObj) (k : AObj → R) : fO o k = k o:=by
 cases o with
 | blk s es => simp only [fO,rS (rS aLy)]
 | mp ents =>
  simp only [fO]
  rw [rS]
  intro e k
  obtain ⟨v,x⟩:=e
  simp only [aLz]
 | raw q => rfl
noncomputable def revT {α : Type} (acc : List α) : List α → List α:=List.rec (motive:=fun _ => List α → List α) (fun t => t) (fun x _ ih t => ih (x :: t)) acc
theorem aHy [GlobT] {α : Type} : ∀ (acc t : List α),revT acc t = acc.reverse ++ t
 | [],t => rfl
 | x :: r,t => (aHy r (x :: t)).trans (by simp)
def aPj {α : Type} (l : List α) (k : List α → R) : R:=match l with
 | [] => k []
 | y :: ys => k (y :: ys)
theorem aKz {α : Type} (l : List α) (k : List α → R) : aPj l k = k l:=by cases l <;> rfl
noncomputable def setG (v : AV) (l : List AV) : Nat → List AV → (List AV → R) → R :=
 List.rec (motive:=fun _ => Nat → List AV → (List AV → R) → R) (fun _ acc k => aPj (revT acc []) k)
  (fun x r ih n acc k => Nat.rec (motive:=fun _ => R) (aPj (revT acc (v :: r)) k) (fun m _ => ih m (x :: acc) k) n) l
theorem aMp [GlobT] (v : AV) : ∀ (l : List AV) (i : Nat) (acc : List AV) (k : List AV → R),setG v l i acc k = k (acc.reverse ++ l.set i v)
 | [],_,acc,k => by
  show aPj (revT acc []) k = _
  rw [aKz,aHy]; rfl
 | x :: r,0,acc,k => by
  show aPj (revT acc (v :: r)) k = _
  rw [aKz,aHy]; rfl
 | x :: r,i + 1,acc,k => (aMp v r i (x :: acc) k).trans (by simp)
noncomputable def setF (v : AV) (l : List AV) (i : Nat) (k : List AV → R) : R:=setG v l i [] k
theorem aT6 [GlobT] (v : AV) (l : List AV) (i : Nat) (k : List AV → R) : setF v l i k = k (l.set i v):=(aMp v l i [] k).trans (by simp)
noncomputable def putF (tm : List AV) (d : Option Nat) (v : AV) (k : List AV → R) : R:=match d with
 | some d => setF v tm d k
 | none => k tm
theorem aEc [GlobT] (tm : List AV) (d : Option Nat) (v : AV) (k : List AV → R) : putF tm d v k = k (putA tm d v):=by
 cases d <;> simp only [putF,putA,aT6]
def fW (x : AV) (k : AV → R) : R:=match x with
 | .lit v => k (.lit v)
 | .sl f es => k (.sl f es)
 | .ms a b c d => k (.ms a b c d)
 | .ptr a b c d => k (.ptr a b c d)
 | .rptr cs => k (.rptr cs)
 | .agg cs => k (.agg cs)
 | .tup cs => k (.tup cs)
 | .fn v cs => k (.fn v cs)
 | .mp i => k (.mp i)
 | .it i => k (.it i)
 | .undef => k .undef
theorem aLx (x : AV) (k : AV → R) : fW x k = k x:=by cases x <;> rfl
def fC (x : AV) (k : AV → R) : R:=match x with
 | .agg cs => fL fW cs fun cs => k (.agg cs)
 | .rptr cs => fL fW cs fun cs => k (.rptr cs)
 | .tup cs => fL fW cs fun cs => k (.tup cs)
 | .fn v cs => fL fW cs fun cs => k (.fn v cs)
 | x => fW x k
theorem aOh [GlobT] (x : AV) (k : AV → R) : fC x k = k x:=by cases x <;> simp only [fC,rS aLx,aLx]
def fT (x : AV) (k : AV → R) : R:=match x with
 | .tup cs => fL fC cs fun cs => k (.tup cs)
 | x => fC x k
theorem aXd [GlobT] (x : AV) (k : AV → R) : fT x k = k x:=by cases x <;> simp only [fT,rS aOh,aOh]
def fS (x : AV) (k : AV → R) : R:=match x with
 | .sl f es => fB f fun f => fL (fun e k => k e) es fun es => k (.sl f es)
 | x => fH x k
theorem aXe [GlobT] (x : AV) (k : AV → R) : fS x k = k x:=by cases x <;> simp only [fS,aQ3,rS (fun _ _ => rfl),aLy]
def aRp : AOp → Nat
 | .mov _ => 0
 | .pick .. => 0
 | .load .. => 1
 | .loadF .. => 1
 | .nilCheck _ => 0
 | .fieldAddr .. => 1
 | .field .. => 1
 | .idxAddr .. => 1
 | .extract .. => 1
 | .lookup .. => 2
 | .build .. => 1
 | .box _ => 3
 | .alloc _ => 3
 | .claim _ => 3
 | .allocC .. => 3
 | .append .. => 3
 | .ibin .. => 3
 | .bin .. => 3
 | .un .. => 3
 | .conv .. => 3
 | .lenS _ => 3
 | .lenM _ => 3
 | .lenStr .. => 3
 | .strIdx .. => 3
 | .slice .. => 4
 | .mkFn .. => 1
 | .call pu .. => match pu with | true => 9 | false => 2
 | .callv pu .. => match pu with | true => 9 | false => 2
 | .callF .. => 2
 | .callS .. => 2
 | .store .. => 0
 | .mapUpd .. => 0
 | _ => 9
def fRes (op : AOp) (v : AV) (k : AV → R) : R:=match aRp op with
 | 0 => fW v k
 | 1 => fC v k
 | 2 => fT v k
 | 3 => fH v k
 | 4 => fS v k
 | _ => fA 8 v k
theorem aVj [GlobT] (op : AOp) (v : AV) (k : AV → R) : fRes op v k = k v:=by
 unfold fRes
 split
 ·exact aLx _ _
 ·exact aOh _ _
 ·exact aXd _ _
 ·exact aLy _ _
 ·exact aXe _ _
 ·exact aLz _ _ _
noncomputable def fAt (l : Heap) : Nat → (Heap → R) → R :=
 List.rec (motive:=fun _ => Nat → (Heap → R) → R) (fun _ k => k []) (fun o r ih n k => Nat.rec (motive:=fun _ => R) (fO o fun o => fL (fun o k => k o) r fun r => k (o :: r)) (fun m _ => ih m fun r => k (o :: r)) n) l
theorem aSg [GlobT] : ∀ (l : Heap) (i : Nat) (k : Heap → R),fAt l i k = k l
 | [],_,k => rfl
 | o :: r,0,k => by
  show fO o (fun o => fL (fun o k => k o) r fun r => k (o :: r)) = _
  rw [aQ2,rS (fun _ _ => rfl)]
 | o :: r,i + 1,k => (aSg r i fun r => k (o :: r))
noncomputable def aUi (n : Nat) (x : AV) : Nat:=match x with
 | .ptr id _ _ _ => id
 | .ms id _ _ _ => id
 | .mp id => id
 | _ => n
noncomputable def fHp [GlobT] (op : AOp) (tm : List AV) (n : Nat) (H : Heap) (k : Heap → R) : R:=match nB op with
 | true => k H
 | false => match op with
  | .store _ x _ => fAt H (aUi n (kU tm x)) k
  | .append _ _ x _ => fAt H (aUi n (kU tm x)) k
  | .mapUpd _ x _ _ => fAt H (aUi n (kU tm x)) k
  | .alloc _ => fAt H n k
  | .box _ => fAt H n k
  | .claim _ => fAt H n k
  | .buildSl _ _ _ _ _ => fAt H n k
  | .mkMap => fAt H n k
  | .mkSlice _ _ _ _ _ => fAt H n k
  | .call _ _ _ => k H
  | .callv _ _ _ => k H
  | .callF _ _ => k H
  | _ => fL fO H k
theorem aSf [GlobT] (op : AOp) (tm : List AV) (n : Nat) (H : Heap) (k : Heap → R) : fHp op tm n H k = k H:=by
 unfold fHp
 split
 ·rfl
 ·split <;> first | exact aSg _ _ _ | rfl | exact rS aQ2 _ _
def fSt (st : St) (k : St → R) : R:=fL (fA 3) st.tmps fun tm => fL fO st.heap fun H => k ⟨tm,H⟩
theorem aSe [GlobT] (st : St) (k : St → R) : fSt st k = k st:=by simp only [fSt,rS (aLz 3),rS aQ2]
end
section
variable (P : Program) (cf : Nat → Nat → List AV → Heap → Option (AV × Heap)) (mem : Nat → List AV → Option AV)
noncomputable def aT1 (tm : List AV) (g : Option (Nat × Bool)) : Option Bool:=match g with
 | none => some true
 | some (t,want) => match getK tm t with
  | .lit (.bool b) => some (b == want)
  | .lit _ => some false
  | _ => none
theorem aP2 [GlobT] (tm : List AV) (g : Option (Nat × Bool)) : aT1 tm g = oL tm g:=by
 cases g with
 | none => rfl
 | some q => simp only [aT1,oL,aE2,kG]; rfl
noncomputable def aFh [GlobT] (fl : Nat) (o : AOper) (st : St) : Option St :=
 match aT1 st.tmps o.guard with
 | some true => match aRj P cf fl mem o.op st.tmps st.heap with
  | some (v,H) => fRes o.op v fun v => putF st.tmps o.dst v fun tm => fHp o.op st.tmps st.heap.length H fun H => some ⟨tm,H⟩
  | none => none
 | some false => putF st.tmps o.dst (.lit lI) fun tm => some ⟨tm,st.heap⟩
 | none => none
theorem aDv [GlobT] (hmem : zJ mem cf) (fl : Nat) (o : AOper) (st : St) : aFh P cf mem fl o st = mB P cf fl o st:=by
 unfold aFh mB
 simp only [aVj,aEc,aSf,aKx P cf fl mem hmem,aP2]
 rfl
noncomputable def aKw [GlobT] (fl : Nat) : List AOper → St → Option St
 | [],st => some st
 | o :: r,st => match aFh P cf mem fl o st with
  | some st => aKw fl r st
  | none => none
theorem aGz [GlobT] (hmem : zJ mem cf) (fl : Nat) : ∀ (l : List AOper) (st : St),aKw P cf mem fl l st = oP P cf fl l st
 | [],st => rfl
 | o :: r,st => by
  simp only [aKw,oP,aDv P cf mem hmem]
  cases h : mB P cf fl o st with
  | none => rfl
  | some st1 => exact aGz hmem fl r _
noncomputable def aFg [GlobT] (fl : Nat) : List AOper → St → Option (List St)
 | [],st => some [st]
 | o :: r,st => match aFh P cf mem fl o st with
  | some st1 => match aFg fl r st1 with
   | some l => some (st :: l)
   | none => none
  | none => none
theorem aDu [GlobT] (hmem : zJ mem cf) (fl : Nat) : ∀ (l : List AOper) (st : St),aFg P cf mem fl l st = pX P cf fl l st
 | [],st => rfl
 | o :: r,st => by
  simp only [aFg,pX,aDv P cf mem hmem]
  cases h : mB P cf fl o st with
  | none => rfl
  | some st1 => simp only [aDu hmem fl r]; rfl
noncomputable def aKu [GlobT] (fl : Nat) (ck : List (Nat × Nat)) (ops : List AOper) (st : St) : Option St:=match ck with
 | [] => aKw P cf mem fl ops st
 | c :: r => match aFg P cf mem fl ops st with
  | some l => match aL8 ops l (c :: r) with
   | true => l.getLast?
   | false => none
  | none => none
theorem aGy [GlobT] (hmem : zJ mem cf) (fl : Nat) (ck : List (Nat × Nat)) (ops : List AOper) (st : St) : aKu P cf mem fl ck ops st = sP P cf fl ck ops st:=by
 cases ck with
 | nil => exact aGz P cf mem hmem fl ops st
 | cons c r => simp only [aKu,sP,aDu P cf mem hmem]; rfl
def fSw {R : Type} (tr : Bool) (st : St) (k : St → R) : R:=match tr with
 | true => fL (fA 3) st.tmps fun tm => fL fO st.heap fun H => k ⟨tm,H⟩
 | false => fL fW st.tmps fun tm => k ⟨tm,st.heap⟩
theorem aSd [GlobT] {R : Type} (tr : Bool) (st : St) (k : St → R) : fSw tr st k = k st:=by
 cases tr
 ·simp only [fSw,rS aLx]
 ·simp only [fSw,rS (aLz 3),rS aQ2]
def yG (tr : Bool) (head : St → St) (step : St → Option (AExit × St)) : Nat → St → Option (AExit × St)
 | 0,_ => none
 | n + 1,st => match fSw tr (head st) step with
  | some (.normal,st) => yG tr head step n st
  | r => r
theorem uG [GlobT] (tr : Bool) (head : St → St) (step : St → Option (AExit × St)) : ∀ (n : Nat) (st : St),yG tr head step n st = pE head step n st
 | 0,_ => rfl
 | n + 1,st => by
  simp only [yG,pE,aSd]
  cases h : step (head st) with
  | none => rfl
  | some r =>
   obtain ⟨x,s⟩:=r
   cases x with
   | normal => exact uG tr head step n _
   | exit i => rfl
   | ret => rfl
def fRet (tr : Bool) (r : Option (AExit × St)) : Option (AExit × St):=match r with
 | some (x,st) => fSw tr st fun st => some (x,st)
 | none => none
theorem aE3 [GlobT] (tr : Bool) (r : Option (AExit × St)) : fRet tr r = r:=by
 unfold fRet
 split
 ·simp only [aSd]
 ·rfl
noncomputable def evCK [GlobT] (lf fl : Nat) : ACode → St → Option (AExit × St)
 | .skip,st => some (.normal,st)
 | .region _ ck ops,st => match aKu P cf mem fl ck ops st with
  | some st => some (.normal,st)
  | none => none
 | .seq a b,st => match evCK lf fl a st with
  | some (.normal,st) => evCK lf fl b st
  | r => r
 | .cond c a b,st => match kU st.tmps c with
  | .lit (.bool true) => evCK lf fl a st
  | .lit (.bool false) => evCK lf fl b st
  | _ => none
 | .block id c,st => match evCK lf fl c st with
  | some (.exit i,st) => if i = id then some (.normal,st) else some (.exit i,st)
  | r => r
 | .loop live tr c,st => yG tr (kY live tr fl st.heap.length) (fun st => evCK lf fl c st) lf st
 | .exit id,st => some (.exit id,st)
 | .ret,st => some (.ret,st)
 | .frz t c,st => match evOp P cf fl (.freeze (.tmp t)) st.tmps st.heap with
  | some (v,H) => fSt ⟨st.tmps.set t v,H⟩ fun st => evCK lf fl c st
  | none => none
 | .mask lx lr tr c,st => fRet tr (lT lx lr tr fl st.heap.length (evCK lf fl c st))
 | .scope c,st => evCK lf fl c st
 | .nilIf t d0 d1 a b,st => match (Nat.blt d0 st.tmps.length && Nat.blt d1 st.tmps.length) with
  | true => match nilK st.heap (kG st.tmps (.tmp t)) with
   | 0 => wB (fSt ⟨rP st.tmps t d0 d1 true,st.heap⟩ fun st => evCK lf fl a st)
   | 1 => fSt ⟨rP st.tmps t d0 d1 false,st.heap⟩ fun st => evCK lf fl b st
   | 2 => match Nat.beq fl st.heap.length with
    | true => fRet true (aIr st.heap (fSt ⟨rP st.tmps t d0 d1 true,st.heap⟩ fun st => evCK lf fl a st) (fSt ⟨rP st.tmps t d0 d1 false,st.heap⟩ fun st => evCK lf fl b st))
    | false => none
   | _ => none
  | false => none
 | .loopV live lx lr t c,st => match aLg fl t st with
  | some st1 => fRet true (aIa lx lr t fl st.heap.length (yG true (yA live t fl st.heap.length) (fun st => evCK lf fl c st) lf st1))
  | none => none
 | .stop,_ => none
theorem oG [GlobT] (hmem : zJ mem cf) (lf fl : Nat) : ∀ (c : ACode) (st : St),evCK P cf mem lf fl c st = evC P cf lf fl c st
 | .skip,st => rfl
 | .region _ ck ops,st => by simp only [evCK,evC,aGy P cf mem hmem]; rfl
 | .seq a b,st => by
  simp only [evCK,evC,oG hmem lf fl a]
  cases h : evC P cf lf fl a st with
  | none => rfl
  | some r =>
   obtain ⟨x,s⟩:=r
   cases x with
   | normal => exact oG hmem lf fl b _
   | exit i => rfl
   | ret => rfl
 | .cond c a b,st => by simp only [evCK,evC,oG hmem lf fl a,oG hmem lf fl b,qW]; rfl
 | .block id c,st => by simp only [evCK,evC,oG hmem lf fl c]; rfl
 | .loop live tr c,st => by
  have h : (fun st => evCK P cf mem lf fl c st) = fun st => evC P cf lf fl c st:=funext fun st => oG hmem lf fl c st
  simp only [evCK,evC,uG,h]
 | .exit id,st => rfl
 | .ret,st => rfl
 | .frz t c,st => by
  simp only [evCK,evC,aSe,oG hmem lf fl c]; rfl
 | .mask lx lr tr c,st => by simp only [evCK,evC,aE3,oG hmem lf fl c]
 | .scope c,st => by simp only [evCK,evC,oG hmem lf fl c]
 | .nilIf t d0 d1 a b,st => by simp only [evCK,evC,aE3,aSe,oG hmem lf fl a,oG hmem lf fl b]; rfl
 | .loopV live lx lr t c,st => by
  have h : (fun st => evCK P cf mem lf fl c st) = fun st => evC P cf lf fl c st:=funext fun st => oG hmem lf fl c st
  simp only [evCK,evC,aE3,uG,h]; rfl
 | .stop,st => rfl
end
structure StF where
 f : St → Option St
structure RunF where
 f : St → Option (AExit × St)
section
variable (P : Program) (cf : Nat → Nat → List AV → Heap → Option (AV × Heap)) (mem : Nat → List AV → Option AV)
def dF {R : Type} (d : Nat) (v : AV) (k : AV → R) : R:=match d with
 | 0 => fW v k
 | 1 => fC v k
 | 2 => fT v k
 | 3 => fH v k
 | 4 => fS v k
 | _ => fA 8 v k
theorem bD1 [GlobT] {R : Type} (d : Nat) (v : AV) (k : AV → R) : dF d v k = k v:=by
 unfold dF
 split <;> first | exact aLx _ _ | exact aOh _ _ | exact aXd _ _ | exact aLy _ _ | exact aXe _ _ | exact aLz _ _ _
noncomputable def resF [GlobT] (d : Nat) (g : List AV → Heap → Option (AV × Heap)) (dst : Option Nat) (op : AOp) (q : Bool) : St → Option St:=fun st =>
 match g st.tmps st.heap with
 | some (v,H) => dF d v fun v => putF st.tmps dst v fun tm => match q with
   | true => some ⟨tm,H⟩
   | false => fHp op st.tmps st.heap.length H fun H => some ⟨tm,H⟩
 | none => none
noncomputable def aUb [GlobT] (fl : Nat) (o : AOper) : StF :=
 match o with
 | ⟨dst,op,guard⟩ => match opF P cf fl mem op with
  | ⟨g⟩ => match guard with
   | none => ⟨resF (aRp op) g dst op (nB op)⟩
   | some (t,want) => ⟨fun st => match getK st.tmps t with
    | .lit (.bool b) => match b == want with
     | true => resF (aRp op) g dst op (nB op) st
     | false => putF st.tmps dst (.lit lI) fun tm => some ⟨tm,st.heap⟩
    | .lit _ => putF st.tmps dst (.lit lI) fun tm => some ⟨tm,st.heap⟩
    | _ => none⟩
theorem aQg [GlobT] (hmem : zJ mem cf) (fl : Nat) (o : AOper) (st : St) : (aUb P cf mem fl o).f st = mB P cf fl o st:=by
 obtain ⟨dst,op,guard⟩:=o
 have hres : ∀ st,resF (aRp op) (opF P cf fl mem op).f dst op (nB op) st = match evOp P cf fl op st.tmps st.heap with
   | some (v,H) => some ⟨putA st.tmps dst v,H⟩
   | none => none:=by
  intro st
  unfold resF
  rw [aWo,aKx P cf fl mem hmem]
  cases he : evOp P cf fl op st.tmps st.heap with
  | none => rfl
  | some x =>
   obtain ⟨v,H⟩:=x
   simp only
   have hq : ∀ tm,(match nB op with | true => some (⟨tm,H⟩ : St) | false => fHp op st.tmps st.heap.length H fun H => some ⟨tm,H⟩) = some ⟨tm,H⟩:=by
    intro tm
    split
    ·rfl
    ·exact aSf _ _ _ _ _
   rw [bD1,aEc]
   exact hq _
 unfold aUb mB
 cases guard with
 | none =>
  simp only [oL]
  exact hres st
 | some q =>
  obtain ⟨t,want⟩:=q
  simp only [oL,aE2,kG]
  cases hg : st.tmps[t]? with
  | none => simp only [lI,aEc]
  | some x =>
   cases x with
   | lit v =>
    cases v <;> simp only [aEc]
    rename_i b
    cases hb : (b == want) with
    | true => simp only; exact hres st
    | false => simp only
   | _ => rfl
noncomputable def opsF [GlobT] (fl : Nat) : List AOper → StF
 | [] => ⟨fun st => some st⟩
 | o :: r => match aUb P cf mem fl o with
  | ⟨f⟩ => match opsF fl r with
   | ⟨g⟩ => ⟨fun st => match f st with
    | some st => g st
    | none => none⟩
theorem aM3 [GlobT] (hmem : zJ mem cf) (fl : Nat) : ∀ (l : List AOper) (st : St),(opsF P cf mem fl l).f st = oP P cf fl l st
 | [],st => rfl
 | o :: r,st => by
  have ih:=aM3 hmem fl r
  have h1:=aQg P cf mem hmem fl o st
  simp only [opsF,oP]
  rw [h1]
  cases h : mB P cf fl o st with
  | none => rfl
  | some st1 => exact ih st1
noncomputable def runF [GlobT] (lf fl : Nat) : ACode → RunF
 | .skip => ⟨fun st => some (.normal,st)⟩
 | .region _ ck ops => match ck with
  | [] => match opsF P cf mem fl ops with
   | ⟨f⟩ => ⟨fun st => match f st with
    | some st => some (.normal,st)
    | none => none⟩
  | c :: r => ⟨fun st => match aKu P cf mem fl (c :: r) ops st with
   | some st => some (.normal,st)
   | none => none⟩
 | .seq a b => match runF lf fl a with
  | ⟨f⟩ => match runF lf fl b with
   | ⟨g⟩ => ⟨fun st => match f st with
    | some (.normal,st) => g st
    | r => r⟩
 | .cond c a b => match runF lf fl a with
  | ⟨f⟩ => match runF lf fl b with
   | ⟨g⟩ => ⟨fun st => match kU st.tmps c with
    | .lit (.bool true) => f st
    | .lit (.bool false) => g st
    | _ => none⟩
 | .block id c => match runF lf fl c with
  | ⟨f⟩ => ⟨fun st => match f st with
   | some (.exit i,st) => if i = id then some (.normal,st) else some (.exit i,st)
   | r => r⟩
 | .loop live tr c => match runF lf fl c with
  | ⟨f⟩ => ⟨fun st => yG tr (kY live tr fl st.heap.length) f lf st⟩
 | .exit id => ⟨fun st => some (.exit id,st)⟩
 | .ret => ⟨fun st => some (.ret,st)⟩
 | .mask lx lr tr c => match runF lf fl c with
  | ⟨f⟩ => ⟨fun st => fRet tr (lT lx lr tr fl st.heap.length (f st))⟩
 | .scope c => runF lf fl c
 | .frz t c => ⟨fun st => evCK P cf mem lf fl (.frz t c) st⟩
 | .nilIf t d0 d1 a b => ⟨fun st => evCK P cf mem lf fl (.nilIf t d0 d1 a b) st⟩
 | .loopV live lx lr t c => ⟨fun st => evCK P cf mem lf fl (.loopV live lx lr t c) st⟩
 | .stop => ⟨fun _ => none⟩
theorem rK [GlobT] (hmem : zJ mem cf) (lf fl : Nat) : ∀ (c : ACode) (st : St),(runF P cf mem lf fl c).f st = evC P cf lf fl c st
 | .skip,st => rfl
 | .region d ck ops,st => by
  cases ck with
  | nil =>
   have h:=aM3 P cf mem hmem fl ops st
   simp only [runF,evC,sP]
   rw [h]
   rfl
  | cons c r =>
   simp only [runF,evC,aGy P cf mem hmem]
   rfl
 | .seq a b,st => by
  have h1:=rK hmem lf fl a st
  have h2:=rK hmem lf fl b
  simp only [runF,evC]
  rw [h1]
  cases h : evC P cf lf fl a st with
  | none => rfl
  | some r =>
   obtain ⟨x,s⟩:=r
   cases x with
   | normal => exact h2 s
   | exit i => rfl
   | ret => rfl
 | .cond c a b,st => by
  have h1:=rK hmem lf fl a st
  have h2:=rK hmem lf fl b st
  simp only [runF,evC,qW]
  rw [← h1,← h2]
  rfl
 | .block id c,st => by
  have h1:=rK hmem lf fl c st
  simp only [runF,evC]
  rw [h1]
  rfl
 | .loop live tr c,st => by
  have h : (runF P cf mem lf fl c).f = fun st => evC P cf lf fl c st:=funext fun st => rK hmem lf fl c st
  simp only [runF,evC,uG]
  rw [← h]
 | .exit id,st => rfl
 | .ret,st => rfl
 | .mask lx lr tr c,st => by
  have h1:=rK hmem lf fl c st
  simp only [runF,evC,aE3]
  rw [h1]
 | .scope c,st => by
  have h1:=rK hmem lf fl c st
  simp only [runF,evC]
  exact h1
 | .frz t c,st => oG P cf mem hmem lf fl (.frz t c) st
 | .nilIf t d0 d1 a b,st => oG P cf mem hmem lf fl (.nilIf t d0 d1 a b) st
 | .loopV live lx lr t c,st => oG P cf mem hmem lf fl (.loopV live lx lr t c) st
 | .stop,st => rfl
end
def finK [GlobT] (F : AFun) (st : St) : Option (AV × Heap):=match uL st F.rets with
 | some vs => fL fC vs fun vs => some (zF vs,st.heap)
 | none => none
noncomputable def evFK [GlobT] (P : Program) (T : List AFun) (M : Memo) : Nat → Nat → Nat → List AV → Heap → Option (AV × Heap)
 | 0,_,_,_,_ => none
 | n + 1,fl,vi,args,H =>
  match GlobT.prim vi with
  | some g => g fl args H
  | none =>
  match T[vi]? with
  | none => none
  | some F => fL fC args fun args => fL fW (args ++ List.replicate (F.nt - args.length) (.lit lI)) fun tm =>
   match runF P (evFK P T M n) (fun vi args => aIc n vi args M) n fl F.body with
   | ⟨f⟩ => match f ⟨tm,H⟩ with
    | some (.normal,st) => finK F st
    | some (.ret,st) => finK F st
    | _ => none
theorem aQu [GlobT] {P : Program} {T : List AFun} {M : Memo} (hM : mF P T M) (n : Nat) : zJ (fun vi args => aIc n vi args M) (evF P T n):=by
 intro vi args r h
 exact zM M hM h
theorem aPd [GlobT] {P : Program} {T : List AFun} {M : Memo} (hM : mF P T M) : ∀ n,evFK P T M n = evF P T n
 | 0 => rfl
 | n + 1 => by
  funext fl vi args H
  simp only [evFK,evF,rS aOh,rS aLx,aPd hM n,finK]
  cases hP : GlobT.prim vi with
  | some g => rfl
  | none =>
  cases hT : T[vi]? with
  | none => rfl
  | some F =>
   simp only
   rw [rK P (evF P T n) _ (aQu hM n)]
   rfl
theorem lY [GlobT] {P : Program} {T : List AFun} {n vi : Nat} {args : List AV} {r : AV} (M : Memo) (hM : mF P T M) (h : (match evFK P T M n 0 vi args [] with | some (r,H') => some (nW H' 0 r) | none => none) = some r) : pv P T n vi args = some r:=by
 rw [aPd hM] at h
 unfold pv
 exact h
end Go.Proofs.YtkdnaejhpcibnaaGreatDoor.Av
