/- A part of the proofs of laws of the chapter office: an evaluator of the program, proved sound, and what it says. -/
import Derived.Test.YtkdnaejhpcibnaaGreatDoorVoTab
import Derived.Test.YtkdnaejhpcibnaaGreatDoorAvStr
import Derived.Test.YtkdnaejhpcibnaaGreatDoorAvFast
set_option linter.unusedVariables false
set_option linter.unusedSimpArgs false
namespace Go.Proofs.YtkdnaejhpcibnaaGreatDoor.Av
open Go
def kL (x : Int) : List AV:=[(iv x)]
theorem lS : ∀ x,(kL x).length=1:=fun _=>rfl
theorem uJ (H : Heap) (n d : Nat) : ∀ x,(kL x).map (rJ H n d)=kL x:=fun _=>by cases d <;> rfl
theorem vS (n : Nat) : ∀ x,(kL x).map (uW n)=kL x:=fun _=>rfl
structure GBox where
 X0 : Int
 Y0 : Int
 X1 : Int
 Y1 : Int
 deriving DecidableEq
def bA1 (x : GBox) : List AV:=[(iv x.X0),(iv x.Y0),(iv x.X1),(iv x.Y1)]
structure GPoint where
 X : Int
 Y : Int
 deriving DecidableEq
def kI (x : GPoint) : List AV:=[(iv x.X),(iv x.Y)]
theorem mS : ∀ x,(kI x).length=2:=fun _=>rfl
theorem xJ (H : Heap) (n d : Nat) : ∀ x,(kI x).map (rJ H n d)=kI x:=fun _=>by cases d <;> rfl
theorem aTa (a b : Int) : kM PP (Op.equalIn 9999 3 (.int .i64 a) (.int .i64 b))=some (a == b):=by kernel_rfl
theorem zD (a b c d : Int) : kM PP (Op.equal 47 (.agg #[.int .i64 a,.int .i64 b]) (.agg #[.int .i64 c,.int .i64 d]))=some (a == c && b == d):=by
 have h1 : kM PP (underlying 47) = some (.struct #[{ name := "X", type := 3, offset := 0, embedded := false, tag := "", pkgPath := "", byteOffset := 0 }, { name := "Y", type := 3, offset := 1, embedded := false, tag := "", pkgPath := "", byteOffset := 8 }]) := by kernel_rfl
 have h3 : ∀ x y : Value,kM PP (part 3 #[x,y] 0)=some x:=by intro x y; kernel_rfl
 have h4 : ∀ x y : Value,kM PP (part 3 #[x,y] 1)=some y:=by intro x y; kernel_rfl
 have h5 : kM PP program=some PP:=rfl
 have h6 : Program.stoodInHeld PP 47=false:=by kernel_rfl
 have n1 : ¬ ("X" = "_") := by decide
 have n2 : ¬ ("Y" = "_") := by decide
 unfold Op.equal Op.maxDepth
 rw [Op.equalIn]
 simp only [mC,h1,Option.bind_some,h5,h6,Bool.false_eq_true,if_false,List.forIn_toArray,List.forIn_cons,List.forIn_nil,n1,n2,ne_eq,not_false_eq_true,if_true,h3,h4,aTa,mI]
 cases h7 : (a == c)
 ·rfl
 ·simp only [Bool.not_true,Bool.false_eq_true,if_false,mI,Option.bind_some,mC,h3,h4,aTa,n1,n2,ne_eq,not_false_eq_true,if_true]
  cases h8 : (b == d) <;> rfl
theorem zE (a b : GPoint) : decide (a=b)=(a.X == b.X && a.Y == b.Y):=by
 cases a; cases b
 simp only [GPoint.mk.injEq,Bool.decide_and]
 rfl
theorem qJ {cf : Nat→Nat→List AV→Heap→Option (AV × Heap)} {fl : Nat} {H : Heap} {a b : GPoint} {r : Bool} (h : decide (a=b)=r) : evOp PP cf fl (.bin .eql 47 (.tmp 0) (.tmp 1)) [.agg (kI a),.agg (kI b)] H=some (.lit (.bool (r)),H):=by
 have g : kM PP (eqGuard .eql 47 (.tmp 0) (.tmp 0) (.agg #[.int .i64 a.X,.int .i64 a.Y]) (.agg #[.int .i64 b.X,.int .i64 b.Y]))=some ():=by kernel_rfl
 have e : kM PP (binOp .eql 47 (.agg #[.int .i64 a.X,.int .i64 a.Y]) (.agg #[.int .i64 b.X,.int .i64 b.Y]))=some (.bool (r)):=by
  simp only [binOp,mC,zD,Option.bind_some,mI,← h,zE]
 have hl : ∀ a : GPoint,lits (.agg (kI a))=some (.agg #[.int .i64 a.X,.int .i64 a.Y]):=fun _=>rfl
 simp only [evOp,kG,List.getElem?_cons_zero,List.getElem?_cons_succ,hl,qS,if_true,g,e]
theorem kR {cf : Nat→Nat→List AV→Heap→Option (AV × Heap)} {fl : Nat} {H : Heap} {a b : GPoint} {r : Bool} (h : decide (a=b)=r) : evOp PP cf fl (.bin .neq 47 (.tmp 0) (.tmp 1)) [.agg (kI a),.agg (kI b)] H=some (.lit (.bool (!r)),H):=by
 have g : kM PP (eqGuard .neq 47 (.tmp 0) (.tmp 0) (.agg #[.int .i64 a.X,.int .i64 a.Y]) (.agg #[.int .i64 b.X,.int .i64 b.Y]))=some ():=by kernel_rfl
 have e : kM PP (binOp .neq 47 (.agg #[.int .i64 a.X,.int .i64 a.Y]) (.agg #[.int .i64 b.X,.int .i64 b.Y]))=some (.bool (!r)):=by
  simp only [binOp,mC,zD,Option.bind_some,mI,← h,zE]
 have hl : ∀ a : GPoint,lits (.agg (kI a))=some (.agg #[.int .i64 a.X,.int .i64 a.Y]):=fun _=>rfl
 simp only [evOp,kG,List.getElem?_cons_zero,List.getElem?_cons_succ,hl,qS,if_true,g,e]
abbrev lv0 : List Bool:=[true,true,false,false,false,false,false,false,false,false,false,false,true,true]
abbrev lv1 : List Bool:=[false,false,false,false,true]
structure GEdit where
 Kind : Int
 ID : Int
 A : Int
 B : Int
 C : Int
 At : GPoint
 Via : (List GPoint)
 Name : ByteArray
 Parts : (List Int)
 deriving DecidableEq
def kD (x : GEdit) : List AV:=[(iv x.Kind),(iv x.ID),(iv x.A),(iv x.B),(iv x.C),(iv x.At.X),(iv x.At.Y),(.sl false (List.map kI x.Via)),(sv x.Name),(.sl false (List.map kL x.Parts))]
theorem lP : ∀ x,(kD x).length=10:=fun _=>rfl
theorem aI7 : ∀ x,(kD x).map toP=kD x:=fun _=>rfl
theorem aHf (H : Heap) (n d : Nat) : ∀ x,(kD x).map (rJ H n d)=kD x:=fun _=>by cases d <;> rfl
theorem mD (n : Nat) : ∀ x,(kD x).map (uW n)=kD x:=fun _=>rfl
abbrev lv2 : List Bool:=[false,false,false,true,false,false,true,true,true]
structure GTxn where
 Office : Int
 Seq : Int
 Time : Int
 Source : ByteArray
 Edits : (List GEdit)
 deriving DecidableEq
def kF (x : GTxn) : List AV:=[(iv x.Office),(iv x.Seq),(iv x.Time),(sv x.Source),(.sl false (List.map kD x.Edits))]
theorem kS : ∀ x,(kF x).length=5:=fun _=>rfl
theorem aMa : ∀ x,(kF x).map toP=kF x:=fun _=>rfl
theorem pZ (H : Heap) (n d : Nat) : ∀ x,(kF x).map (rJ H n d)=kF x:=fun _=>by cases d <;> rfl
theorem lX (n : Nat) : ∀ x,(kF x).map (uW n)=kF x:=fun _=>rfl
abbrev lv3 : List Bool:=[false,true,true,false,false,false,false,false,false,false,false,false,false,false,false,true,true,true]
abbrev lv4 : List Bool:=[false,false,false,false,false,false,true]
theorem qF {cf : Nat→Nat→List AV→Heap→Option (AV × Heap)} {fl : Nat} {H : Heap} (s : ByteArray) : evOp PP cf fl (.lenStr 9 (.tmp 0)) [.lit (.string s)] H=some (.lit (.int .i64 ((s.size : Nat) : Int)),H):=by kernel_rfl
structure GOffice where
 ID : Int
 Txns : (List GTxn)
 deriving DecidableEq
def mZ (x : GOffice) : List AV:=[(iv x.ID),(.sl false (List.map kF x.Txns))]
structure GT146 where
 first : Int
 last : Int
 script : Int
 deriving DecidableEq
def aPr (x : GT146) : List AV:=[(.lit (.int .i32 x.first)),(.lit (.int .i32 x.last)),(iv x.script)]
theorem aI6 : ∀ x,(aPr x).length=3:=fun _=>rfl
def tab0 : List GT146:=[(GT146.mk 32 32 0),(GT146.mk 39 41 0),(GT146.mk 45 46 0),(GT146.mk 48 57 0),(GT146.mk 65 90 1),(GT146.mk 97 122 1),(GT146.mk 192 214 1),(GT146.mk 216 246 1),(GT146.mk 248 591 1),(GT146.mk 880 1023 2),(GT146.mk 1024 1279 3),(GT146.mk 1488 1514 4),(GT146.mk 19968 40959 5)]
abbrev lv5 : List Bool:=[false,false,false,true,false,false,false,false,false,false,false,false,false,false,true,true]
abbrev lv6 : List Bool:=[false,false,true,false,false,false,false,true]
abbrev lv7 : List Bool:=[false,false,true,false,false,false,false,false,false,false,false,false,false,false,false,false,false,false,false,false,false,false,false,false,false,false,false,false,false,false,false,false,false,false,true,true,true]
abbrev lv8 : List Bool:=[true,true,false,false,false,false,false,true,true]
abbrev lv9 : List Bool:=[false,false,false,false,false,false,false,false,false,false,false,false,false,false,false,false,false,false,false,false,false,false,false,false,false,false,false,false,false,false,false,false,false,false,false,false,false,false,false,false,false,false,false,false,false,false,false,false,false,false,false,false,false,true,true,true]
structure GArr2_Int where
 e0 : Int
 e1 : Int
 deriving DecidableEq
def lA (x : GArr2_Int) : Value:=.agg #[(.int .i64 x.e0),(.int .i64 x.e1)]
def nZ (x : Bool) : AV:=(bv x)
abbrev lv10 : List Bool:=[false,true,false,true,false,false,false,false,false,false,false,false,false,false,false,false,false,false,false,false,false,false,false,true,true,true]
abbrev lv11 : List Bool:=[false,true,true,false,false,false,false,false,false,false,true,true,true]
abbrev lv15 : List Bool:=[false,false,true,false,false,false,false,false,false,true,true,true]
abbrev lv16 : List Bool:=[true,false,true,false,true,false,false,false,true,true,true]
abbrev lv17 : List Bool:=[true,false,true,false,true,false,false,false,true,true]
abbrev lv18 : List Bool:=[false,false,false,false,false,false,true,true]
structure GClock where
 Counts : (List Int)
 deriving DecidableEq
def oS (x : GClock) : List AV:=[(.sl false (List.map kL x.Counts))]
abbrev lv22 : List Bool:=[false,false,true,false,true,false,false,false,false,true,true,true]
abbrev lv23 : List Bool:=[false,false,true,false,true,false,true,false,false,true,true,true,false,false,false,false,false,false,false,false,false,false,false,false,false,false,true,true,true]
abbrev lv24 : List Bool:=[false,false,true,false,true,false,true,false,false,true,true,true]
abbrev lv25 : List Bool:=[false,false,false,false,true,false,true,true,false,false,false,false,false,false,false,false,false,true,true,true]
abbrev lv26 : List Bool:=[false,false,false,false,true,false,true]
abbrev lv27 : List Bool:=[false,false,false,false,true,true]
abbrev lv28 : List Bool:=[true,false,false,false,true,true]
abbrev lv29 : List Bool:=[true,false,false,false,true,true,true,true]
abbrev lv30 : List Bool:=[true,false,false,false,true,true,true]
abbrev lv31 : List Bool:=[false,false,true,false,false,true,true,true,true,true,true,true]
abbrev lv32 : List Bool:=[false,true,true,false,false,true,true,true,true,true,true,true,true]
abbrev lv33 : List Bool:=[false,true,false,false,true]
abbrev lv34 : List Bool:=[false,true,false,true,true]
abbrev lv35 : List Bool:=[true,false,false,true,false,true]
abbrev lv38 : List Bool:=[true,true,false,false,false,true]
abbrev lv39 : List Bool:=[false,false,true,true,false,true]
abbrev lv40 : List Bool:=[true,true,true,false,false,false,false,true]
abbrev lv41 : List Bool:=[false,true,false,false,true,false,true,true]
abbrev lv42 : List Bool:=[false,true,true,false,false,true,true]
abbrev lv43 : List Bool:=[false,false,false,false,false,true]
structure OZ where
 O : List (Nat × AV × Option Heap)
 ps : List Prop
 ok : AllP ps
def q0 : OZ:=⟨[],[],trivial⟩
def qp {p : Prop} (g : p) (r : OZ) : OZ:=⟨r.O,p :: r.ps,⟨g,r.ok⟩⟩
def qa {x : Option AV} {v : AV} (k : Nat) (g : x=some v) (r : OZ) : OZ:=⟨(k,v,none) :: r.O,(x=some v) :: r.ps,⟨g,r.ok⟩⟩
def qb {x : Option (AV × Heap)} {v : AV} {H : Heap} (k : Nat) (g : x=some (v,H)) (r : OZ) : OZ:=⟨(k,v,none) :: r.O,(x=some (v,H)) :: r.ps,⟨g,r.ok⟩⟩
def qc {x : Option (AV × Heap)} {v : AV} {H : Heap} (k : Nat) (g : x=some (v,H)) (r : OZ) : OZ:=⟨(k,v,some H) :: r.O,(x=some (v,H)) :: r.ps,⟨g,r.ok⟩⟩
section
variable [GlobT] {P : Program} {T : List AFun} {n vi fl : Nat} {args : List AV} {r : AV} {H H' : Heap}
theorem pv_q (F : AFun) (z : OZ) (L : List (AExit × St)) (M : List (Option Heap)) (h : oF P T n ⟨z.O,[]⟩ L M F args=some (r,z.ps):=by kernel_rfl) (hF : getF T vi=some F:=by exact rfl) : pv P T (n + 1) vi args=some r:=pv_z _ L M hF ⟨z.ps,z.ok⟩ h
theorem kT (F : AFun) (z : OZ) (L : List (AExit × St)) (M : List (Option Heap)) (h : oE P T n ⟨z.O,[]⟩ L M F fl args H=some (r,H',z.ps):=by kernel_rfl) (hF : getF T vi=some F:=by exact rfl) : evF P T (n + 1) fl vi args H=some (r,H'):=bDz _ L M hF ⟨z.ps,z.ok⟩ h
variable {cf : Nat→Nat→List AV→Heap→Option (AV × Heap)} {lf m : Nat} {c : ACode} {st : St} {x : AExit} {lx lr : List Bool} {q : Option (AExit × St)}
theorem aNj (live : Option (List Bool)) (tr : Bool) (st' : St) (z : OZ) (L : List (AExit × St)) (M : List (Option Heap)) (hc : kV tr fl n st'.heap) (hr : kW (kY live tr fl n) (evC P cf lf fl c) m st'=q)
  (h : oB P cf lf fl (vK live tr n) ⟨z.O,[]⟩ L M c st=some (.normal,st',z.ps):=by kernel_rfl) (hn : Nat.ble fl n=true:=by exact rfl) : kW (kY live tr fl n) (evC P cf lf fl c) (m + 1) st=q:=aWq _ L M hn ⟨z.ps,z.ok⟩ h hc hr
theorem kX (live : Option (List Bool)) (tr' : Bool) {tr : Bool} (st' : St) (z : OZ) (L : List (AExit × St)) (M : List (Option Heap)) (hc : aG8 tr fl n x st'.heap)
  (h : oX P cf lf fl n lx lr tr ⟨z.O,[]⟩ L M c st=some (x,st',z.ps):=by kernel_rfl) (hn : Nat.ble fl n=true:=by exact rfl) : lT lx lr tr fl n (kW (kY live tr' fl n) (evC P cf lf fl c) (m + 1) st)=some (x,st'):=aWx _ L M hn ⟨z.ps,z.ok⟩ h hc
theorem nx_q {live : Option (List Bool)} {tr tr2 : Bool} {n2 : Nat} (st' : St) (z : OZ) (L : List (AExit × St)) (M : List (Option Heap)) (hc : kV tr fl n st'.heap) (ih : lT lx lr tr2 fl n2 (kW (kY live tr fl n) (evC P cf lf fl c) m st')=q)
  (h : oB P cf lf fl (vK live tr n) ⟨z.O,[]⟩ L M c st=some (.normal,st',z.ps):=by kernel_rfl) (hn : Nat.ble fl n=true:=by exact rfl) : lT lx lr tr2 fl n2 (kW (kY live tr fl n) (evC P cf lf fl c) (m + 1) st)=q:=(congrArg (lT lx lr tr2 fl n2) (aNj live tr st' z L M hc rfl h hn)).trans ih
end
theorem si {α : Type} {a b : α} (h : some a=some b) : a=b:=Option.some.inj h
theorem cn {α : Type} {b : Bool} {x y r : α} (h : cnd b x y=r) : (b=true∧some (AV.lit (.bool b))=some bt∧x=r) ∨ (b=false∧some (AV.lit (.bool b))=some bf∧y=r):=by
 cases b with
 | true=>exact .inl ⟨rfl,rfl,h⟩
 | false=>exact .inr ⟨rfl,rfl,h⟩
section
variable [GlobT] {P : Program} {cf : Nat→Nat→List AV→Heap→Option (AV × Heap)} {fl b id s n k : Nat} {H : Heap} {α : Type} {c : α→List AV} {l l' m : List α} {row : List AV}
theorem aWw (hb : H[b]? = some (.blk n [row])) (hn : row.length=n) (hk : row[k]? = some (.ms id l.length 0 l.length)) (hfl : fl ≤ id) (hp : ∀ x,(c x).map toP=c x) (hH : H[id]? = some (.blk s (l.map c)):=by rfl) :
  evOp P cf fl (.loadF n k (.tmp 0)) [.ptr b 1 0 0] H=some (.agg (row.set k (.sl false (l.map c))),H.set id (.blk s (l.map c++[List.replicate s .undef]))):=by
 have e1 : oD H (.ptr b 1 0 0) n=some row:=by
  simp [oD,hb,← hn]
 have h1 : (l.map c).length=l.length:=by simp
 have h3 : (l.map c).map (fun e=>e.map toP)=l.map c:=by
  rw [List.map_map]
  exact List.map_congr_left fun x _=>hp x
 simp only [evOp,kG,List.getElem?_cons_zero,e1,hk,hfl,if_true,hH,h1,List.drop_zero]
 rw [List.take_of_length_le (by omega),h3]
theorem aRy {bytes : Nat} {f : Bool} (h : app ([] : List α) m=some l') (hc : ∀ x,(c x).length=s) (hs : 0 < s) (hb : bytes ≤ 100000) (hp : ∀ x,(c x).map toP=c x) :
  evOp P cf fl (.appendP s bytes (.tmp 0) (.tmp 1)) [.sl true [],.sl f (m.map c)] H=some (.sl false (l'.map c),H):=by
 obtain ⟨e0,hl⟩:=aFm h
 have e0 : l'=m:=by simpa using e0
 subst e0
 have h3 : (l'.map c).map (fun e=>e.map toP)=l'.map c:=by
  rw [List.map_map]
  exact List.map_congr_left fun x _=>hp x
 have hr : room (l'.map c).length bytes=true:=by
  have h1 : l'.length * bytes ≤ 1000000 * 100000:=Nat.mul_le_mul (by simpa using hl) hb
  have h2 : l'.length ≤ 1000000:=by simpa using hl
  simp only [room,List.length_map,Bool.and_eq_true,decide_eq_true_eq]
  omega
 show (match appP s bytes (.sl true []) (.sl f (l'.map c)) with | some v=>some (v,H) | none=>none)=_
 simp only [appP,aQe,uK hc,hs,hr,and_self,if_true,h3,List.nil_append]
def appZ (l : List α) (k : Int) (x : α) : Option (List α):=if 0 ≤ k∧l.length + k.toNat ≤ 1000000 then some (l++List.replicate k.toNat x) else none
theorem aT5 {t : TypeId} {a : Int} : evOp P cf fl (.bin .shr t (.tmp 0) (.tmp 1)) [.lit (.int .u64 a),.lit (.int .u64 1)] H=some (.lit (.int .u64 (a.fdiv 2)),H):=by
 have h1 : kM P (eqGuard .shr t (.tmp 0) (.tmp 0) (.int .u64 a) (.int .u64 1))=some ():=rfl
 have h2 : kM P (binOp .shr t (.int .u64 a) (.int .u64 1))=some (.int .u64 (a.fdiv 2)):=by
  simp [binOp,Op.shift]
  rfl
 simp only [evOp,kG,List.getElem?_cons_zero,List.getElem?_cons_succ,lits,qS,if_true,h1,h2]
end
theorem xI [GlobT] {P : Program} {T : List AFun} {n fl vi : Nat} {args : List AV} {H : Heap} {r : AV} (hp : mW args=true) (hn : args.map nrm2=args) (h : pv P T n vi args=some r) : nH (evF P T n) fl true vi args H=some (r,H):=by
 rw [aRu]
 simp only [hp,hn,h]
section
variable [GlobT] {H : Heap} {α : Type} {c : α→List AV} {l : List α} {x : α} {i : Int} {id s fl tot : Nat}
theorem aOc (ht : l.length=tot) {k : Nat} (h : idxK l k i=some x) (hH : H[id]? = some (.blk s (l.map c))) : idxA H s (.ms id tot 0 k) (.lit (.int .i64 i))=some (.ptr id tot (0 + i.toNat) 0):=by subst ht; exact uP h hH
theorem aR5 (ht : l.length=tot) {P : Program} {cf : Nat→Nat→List AV→Heap→Option (AV × Heap)} {off n k : Nat} {x' : α} {v : AV} {cs : List AV} (h : idxK l k i=some x) (hH : H[id]? = some (.blk s (l.map c))) (hfl : fl ≤ id) (hv : cellsOf v=some cs) (hx : lG (c x) off (cs.map nrm)=c x') (hn : cs.length=n∧off + cs.length ≤ (c x).length) (hnrm : cs.map nrm=cs) :
  evOp P cf fl (.store n (.tmp 0) (.tmp 1)) [.ptr id tot (0 + i.toNat) off,v] H=some (.lit lI,H.set id (.blk s ((l.set i.toNat x').map c))):=by subst ht; exact aT3 h hH hfl hv hx hn hnrm
end
theorem clo {n : Nat} {o : AObj} {l : List AObj} (h : lC n o=o) (k : l.map (lC n)=l) : (o :: l).map (lC n)=o :: l:=by rw [List.map_cons,h,k]
theorem aPn {K V : Type} {kv : K→Value} {va : V→AV} {n : Nat} {m : List (K × V)} (h : ∀ v,zA n (va v)=va v) : lC n (.mp (entL kv va m))=.mp (entL kv va m):=congrArg AObj.mp (aPo h)
theorem mE {α : Type} {c : α→List AV} {n s : Nat} {l : List α} (h : ∀ x,(c x).map (uW n)=c x) : lC n (.blk s (l.map c))=.blk s (l.map c):=congrArg (AObj.blk s) (by rw [List.map_map]; exact List.map_congr_left fun x _=>h x)
theorem aVq {α : Type} {c : α→List AV} {vi fid s bytes n : Nat} {z : List Value} {f : Bool} {l : List α} (H : Heap) (hT : getF T vi=some ⟨fid,8,[.tmp 2],xD s bytes z⟩) (hc : ∀ x,(c x).length=s) (hs : 0 < s) (hb : bytes ≤ 100000)
  (he : l.isEmpty=false) (hl : l.length ≤ 1000000) : evOp PP (evF PP T (n + 1)) 0 (.callF vi [.tmp 0]) [.sl f (l.map c)] H=some (.ms H.length l.length 0 l.length,H++[.blk s (l.map c)]):=by
 have hb1 : Nat.blt 3 8=true:=rfl
 have hb2 : Nat.blt 4 8=true:=rfl
 cases l with
 | nil=>cases he
 | cons x r =>
  have happ : lW H.length H s bytes (.sl true []) ((x :: r).map c)=some (.ms H.length (x :: r).length 0 (x :: r).length,H++[.blk s ((x :: r).map c)]) :=
   aMe (l':=x :: r) (x:=.sl true []) (qK (by simpa using hl)) rfl hc hs hb (.inr rfl)
  generalize hys : (x :: r).map c=ys at happ ⊢
  obtain ⟨y,q,rfl⟩ : ∃ y q,ys=y :: q:=by
   cases ys with
   | nil=>simp at hys
   | cons y q=>exact ⟨y,q,rfl⟩
  generalize (x :: r).length=L at happ
  have hp : (GlobT.prim vi : Option _)=none∧T[vi]? = some ⟨fid,8,[.tmp 2],xD s bytes z⟩:=by
   unfold getF at hT
   split at hT
   ·cases hT
   ·rename_i h; exact ⟨h,hT⟩
  simp [evF,hp.1,hp.2,hb1,hb2,xD,evC,sP,oP,mB,oL,evOp,kG,nilK,rP,putA,aA2,rd,happ,uL,aIy,zF,nilS,lI]
theorem aVr {α : Type} {c : α→List AV} {vi fid s bytes n : Nat} {z : List Value} {f : Bool} {l : List α} (H : Heap) (hT : getF T vi=some ⟨fid,8,[.tmp 2],xD s bytes z⟩) (hs : 0 < s)
  (he : l.isEmpty=true) : evOp PP (evF PP T (n + 1)) 0 (.callF vi [.tmp 0]) [.sl f (l.map c)] H=some (.sl false [],H):=by
 have hb1 : Nat.blt 3 8=true:=rfl
 have hb2 : Nat.blt 4 8=true:=rfl
 cases l with
 | cons x r=>cases he
 | nil =>
  have happ : lW H.length H s bytes (.sl true []) []=some (.sl true [],H):=by simp [lW,pG,hs,room]
  have hp : (GlobT.prim vi : Option _)=none∧T[vi]? = some ⟨fid,8,[.tmp 2],xD s bytes z⟩:=by
   unfold getF at hT
   split at hT
   ·cases hT
   ·rename_i h; exact ⟨h,hT⟩
  simp [evF,hp.1,hp.2,hb1,hb2,xD,evC,sP,oP,mB,oL,evOp,kG,nilK,rP,putA,aA2,rd,happ,uL,aIy,zF,aIr,zG,aN5,empA,nilS,lI]
def insO {α : Type} (l : List α) (i : Int) (x : α) : Option (List α):=if 0 ≤ i∧i.toNat ≤ l.length∧l.length ≤ 1000000 then some (l.take i.toNat++x :: l.drop i.toNat) else none
theorem aOa {α : Type} {l v : List α} {i : Int} {x : α} (h : insO l i x=some v) : 0 ≤ i∧i.toNat ≤ l.length∧l.length ≤ 1000000∧v=l.take i.toNat++x :: l.drop i.toNat:=by
 unfold insO at h
 split at h
 ·rename_i hc; cases h; exact ⟨hc.1,hc.2.1,hc.2.2,rfl⟩
 ·cases h
theorem uD {n fl id id2 : Nat} {H : Heap} {l v : List GTxn} {i : Int} {x : GTxn} (hfl : fl ≤ id) (hne : Nat.beq id id2=false) (hH : H[id]? = some (.blk 5 (l.map kF))) (h2 : H[id2]? = some (.blk 5 [kF x])) (h : insO l i x=some v) :
  evF PP T (n + 1) fl 43 [.ms id l.length 0 l.length,iv i,.ms id2 1 0 1] H=some (.ms id v.length 0 v.length,H.set id (.blk 5 (v.map kF))):=by
 show insA fl [.ms id l.length 0 l.length,iv i,.ms id2 1 0 1] H=_
 obtain ⟨h3,h4,h5,rfl⟩:=aOa h
 have h6 : Nat.ble fl id=true:=Nat.ble_eq_true_of_le hfl
 have h7 : Nat.ble l.length 1000000=true:=Nat.ble_eq_true_of_le h5
 have h8 : Nat.beq l.length l.length=true:=Nat.beq_refl _
 have h9 : Nat.beq (l.map kF).length l.length=true:=by simp
 have h10 : Nat.ble i.toNat l.length=true:=Nat.ble_eq_true_of_le h4
 have h11 : decide (0 ≤ i)=true:=decide_eq_true h3
 have e0 : Nat.beq 0 0=true:=rfl
 have e1 : Nat.beq 1 1=true:=rfl
 have e5 : Nat.beq 5 5=true:=rfl
 have el : (l.take i.toNat++x :: l.drop i.toNat).length=l.length + 1:=by
  simp only [List.length_append,List.length_take,List.length_cons,List.length_drop]
  omega
 unfold insA
 simp only [hH,h2,h6,h7,h8,h9,h10,h11,hne,e0,e1,e5,Bool.and_self,Bool.not_false,el,List.map_append,List.map_cons,List.map_take,List.map_drop]
theorem aPe (a b : Int) : kM PP (Op.equalIn 9999 3 (.int .i64 a) (.int .i64 b))=some (a == b):=by kernel_rfl
theorem aCy (a b c d : Int) : kM PP (Op.equal 77 (.agg #[.int .i64 a,.int .i64 b]) (.agg #[.int .i64 c,.int .i64 d]))=some (a == c && b == d):=by
 have h1 : kM PP (underlying 77)=some (.array 2 3):=by kernel_rfl
 have h2 : kM PP (sizeOf 3)=some 1:=by kernel_rfl
 have h3 : ∀ x y : Value,kM PP (part 3 #[x,y] 0)=some x:=by intro x y; kernel_rfl
 have h4 : ∀ x y : Value,kM PP (part 3 #[x,y] 1)=some y:=by intro x y; kernel_rfl
 unfold Op.equal Op.maxDepth
 rw [Op.equalIn]
 simp only [mC,h1,Option.bind_some,h2,Std.Legacy.Range.forIn_eq_forIn_range',Std.Legacy.Range.size,Nat.sub_zero,Nat.add_one_sub_one,Nat.div_one,List.range',List.forIn_cons,List.forIn_nil,Nat.zero_mul,Nat.zero_add,Nat.one_mul,h3,h4,aPe,mI]
 cases h7 : (a == c)
 ·rfl
 ·simp only [Bool.not_true,Bool.false_eq_true,if_false,mI,Option.bind_some,mC,h3,h4,aPe,if_true]
  cases h8 : (b == d) <;> rfl
theorem aCz (a b : GArr2_Int) : decide (a=b)=(a.e0 == b.e0 && a.e1 == b.e1):=by
 cases a; cases b
 simp only [GArr2_Int.mk.injEq,Bool.decide_and]
 rfl
theorem aNs (k : GArr2_Int) : ∀ (ks : List GArr2_Int) (i : Nat),kM PP (Instr.findAsking 77 (lA k) (ks.map fun x=>{ key:=lA x,val:=.bool false,born:=0 }) i)=some ((ks.findIdx? fun x=>decide (x=k)).map fun j=>(i + j,.bool false))
 | [],i=>rfl
 | x :: r,i=>by
  have he : kM PP (Op.equal 77 (lA k) (lA x))=some (decide (x=k)):=by
   refine (aCy k.e0 k.e1 x.e0 x.e1).trans (congrArg some ?_)
   rw [← aCz k x]
   exact decide_eq_decide.2 ⟨fun h=>h.symm,fun h=>h.symm⟩
  simp only [List.map_cons,Instr.findAsking,mC,he,Option.bind_some,List.findIdx?_cons]
  cases decide (x=k) with
  | true=>simp [mI]
  | false =>
   simp only [Bool.false_eq_true,if_false,aNs k r (i + 1)]
   cases r.findIdx? fun x=>decide (x=k) with
   | none=>rfl
   | some j=>simp; omega
theorem nO : KeyOK PP 77 lA where
 find:=fun k ks=>by
  have hu : kM PP (underlying 77)=some (.array 2 3):=by kernel_rfl
  unfold pT
  simp only [Instr.findKey,mC,hu,Option.bind_some,List.map_map,Function.comp_def]
  cases ks with
  | nil=>rfl
  | cons x r =>
   have h1 : Instr.findNow (.array 2 3) (lA k) (List.map (fun x=>({ key:=lA x,val:=.bool false,born:=0 } : MapEntry)) (x :: r)) 0=none:=rfl
   simp only [h1,aNs k (x :: r) 0]
   cases (x :: r).findIdx? fun x=>decide (x=k) with
   | none=>rfl
   | some j=>simp
 chk:=fun e k=>by kernel_rfl
 same:=fun k=>by simp [lA,Instr.sameBits]
def f60 (n : Nat) (l : List GPoint) : Option (List GPoint):=match n with
 | 0=>none
 | _ + 1=>if l.length ≤ 1000000 then some l else none
theorem aYg (n : Nat) (l r : List GPoint) (h : f60 n l=some r) : pv PP T n 60 [.sl false (l.map kI)]=some (.sl false (r.map kI)):=by
 cases n with
 | zero=>cases h
 | succ n =>
  simp only [f60] at h
  split at h
  ·rename_i hl
   cases h
   exact aK0 (s:=2) (bytes:=16) (z:=[(.int .i64 0),(.int .i64 0)]) (fid:=67) rfl mS (by omega) (by omega) (fun H=>xJ H 0 5) l hl
  ·cases h
def f61 (n : Nat) (l : List Int) : Option (List Int):=match n with
 | 0=>none
 | _ + 1=>if l.length ≤ 1000000 then some l else none
theorem aYf (n : Nat) (l r : List Int) (h : f61 n l=some r) : pv PP T n 61 [.sl false (l.map kL)]=some (.sl false (r.map kL)):=by
 cases n with
 | zero=>cases h
 | succ n =>
  simp only [f61] at h
  split at h
  ·rename_i hl
   cases h
   exact aK0 (s:=1) (bytes:=8) (z:=[(.int .i64 0)]) (fid:=68) rfl lS (by omega) (by omega) (fun H=>uJ H 0 5) l hl
  ·cases h
def f86 (n : Nat) (s t : ByteArray) : Option Bool:=match n with
 | 0=>none
 | _ + 1=>match Nat.blt s.size 4294967281 with
  | true=>some (Lib.contains s.data.toList t.data.toList)
  | false=>none
theorem aSp (n : Nat) (s t : ByteArray) (r : Bool) (h : f86 n s t=some r) : pv PP T n 86 [.lit (.string s),.lit (.string t)]=some (.lit (.bool r)):=by
 cases n with
 | zero=>cases h
 | succ n =>
  simp only [f86] at h
  have e : pv PP T (n + 1) 86 [.lit (.string s),.lit (.string t)]=(match aI3 0 [.lit (.string s),.lit (.string t)] [] with | some (r,H')=>some (nW H' 0 r) | none=>none):=rfl
  rw [e]
  simp only [aI3]
  split at h
  ·rename_i hb
   cases h
   rw [hb]; rfl
  ·cases h
def f116 : Nat→GBox→GPoint→Option Bool
 | 0,_,_=>none
 | n + 1,a1,a2=>(cnd (decide (a1.X0 ≤ a2.X)) (cnd (decide (a2.X ≤ a1.X1)) (cnd (decide (a1.Y0 ≤ a2.Y)) (cnd (decide (a2.Y ≤ a1.Y1)) (some true) (some false)) (some false)) (some false)) (some false))
theorem pC (n : Nat) (a1 : GBox) (a2 : GPoint) (r : Bool) (h : f116 n a1 a2=some r) : pv PP T n 116 [(.agg (bA1 a1)),(.agg (kI a2))]=some (bv r):=by
 cases n with
 | zero=>cases h
 | succ n =>
  rw [f116] at h
  rcases cn h with ⟨h3,b3,h⟩ | ⟨h3,b3,h⟩
  rotate_left
  ·obtain rfl:=si h
   exact pv_q F116 (qa 9 b3<|q0) [] []
  rcases cn h with ⟨h5,b5,h⟩ | ⟨h5,b5,h⟩
  rotate_left
  ·obtain rfl:=si h
   exact pv_q F116 (qa 15 b5<|qa 9 b3<|q0) [] []
  rcases cn h with ⟨h7,b7,h⟩ | ⟨h7,b7,h⟩
  rotate_left
  ·obtain rfl:=si h
   exact pv_q F116 (qa 22 b7<|qa 15 b5<|qa 9 b3<|q0) [] []
  rcases cn h with ⟨h9,b9,h⟩ | ⟨h9,b9,h⟩
  ·obtain rfl:=si h
   exact pv_q F116 (qa 29 b9<|qa 22 b7<|qa 15 b5<|qa 9 b3<|q0) [] []
  obtain rfl:=si h
  exact pv_q F116 (qa 29 b9<|qa 22 b7<|qa 15 b5<|qa 9 b3<|q0) [] []
def aJ2 (aA : (List GPoint)) (aB : (List GPoint)) (aC : Int) : St:=⟨[(.sl false (List.map kI aA)),(.sl false (List.map kI aB)),U,U,U,U,U,U,U,U,U,U,(iv ((aA.length : Nat) : Int)),(iv aC),U,U,U,U,U,U,U,U,U,U,U,U],[]⟩
def aA9 (aA : (List GPoint)) (aB : (List GPoint)) : St:=⟨[U,U,U,U,bf,U,U,U,U,U,U,U,U,U,U,U,U,U,U,U,U,U,U,U,U,U],[]⟩
def aA8 (aA : (List GPoint)) (aB : (List GPoint)) : St:=⟨[U,U,U,U,U,U,U,U,U,U,U,U,U,U,U,U,U,U,U,U,U,U,U,U,U,U],[]⟩
def aDo (n : Nat) (aB : (List GPoint)) (aC : (List GPoint)) : Nat→Int→Option (Unit ⊕ Unit)
 | 0,_=>none
 | m + 1,aA=>(cnd (decide (aA < ((aB.length : Nat) : Int))) (bnd (idx aB aA) fun aD=>(bnd (idx aC aA) fun aE=>(cnd (decide (aD=aE)) (aDo n aB aC m (IntKind.i64.wrap (aA + 1))) (some (Sum.inl ()))))) (some (Sum.inr ())))
theorem aA7 (n : Nat) (aA : (List GPoint)) (aB : (List GPoint)) : ∀ (m : Nat) (aC : Int) (r : (Unit ⊕ Unit)),aDo n aA aB m aC=some r→lT [] lv1 false 0 0 (kW (kY (some lv0) false 0 0) (evC PP (evF PP T n) n 0 bBg) m (aJ2 aA aB aC))=(match r with | .inl r=>some (.ret,aA9 aA aB) | .inr r=>some ((.exit 0),aA8 aA aB))
 | 0,_,_,h=>by cases h
 | m + 1,aC,r,h=>by
  rw [aDo] at h
  rcases cn h with ⟨aJ,aD,h⟩ | ⟨aJ,aD,h⟩
  rotate_left
  ·obtain rfl:=si h
   exact kX (some lv0) false (aA8 aA aB) (qa 14 aD<|q0) [] [] trivial
  obtain ⟨aF,aK,h⟩:=kE h
  have aG:=idxl (H:=[]) (f:=false) (c:=kI) aK (mS _)
  obtain ⟨aH,aL,h⟩:=kE h
  have aI:=idxl (H:=[]) (f:=false) (c:=kI) aL (mS _)
  rcases cn h with ⟨aE,aM,h⟩ | ⟨aE,aM,h⟩
  rotate_left
  ·have aN:=kR (cf:=evF PP T n) (fl:=0) (H:=[]) (a:=aF) (b:=aH) aE
   obtain rfl:=si h
   exact kX (some lv0) false (aA9 aA aB) (qb 24 aN<|qa 22 aI<|qa 18 aG<|qa 14 aD<|q0) [] [] trivial
  have aO:=kR (cf:=evF PP T n) (fl:=0) (H:=[]) (a:=aF) (b:=aH) aE
  exact nx_q (aJ2 aA aB (IntKind.i64.wrap (aC + 1))) (qb 24 aO<|qa 22 aI<|qa 18 aG<|qa 14 aD<|q0) [] [] trivial (aA7 n aA aB m (IntKind.i64.wrap (aC + 1)) r h)
def f98 : Nat→(List GPoint)→(List GPoint)→Option Bool
 | 0,_,_=>none
 | n + 1,aA,aB=>(cnd (((aA.length : Nat) : Int) != ((aB.length : Nat) : Int)) (some false) (bnd2 (aDo n aA aB n 0) (fun aC=>(some false)) (fun aD=>(some true))))
theorem aSi (n : Nat) (aA : (List GPoint)) (aB : (List GPoint)) (r : Bool) (h : f98 n aA aB=some r) : pv PP T n 98 [(.sl false (List.map kI aA)),(.sl false (List.map kI aB))]=some (bv r):=by
 cases n with
 | zero=>cases h
 | succ n =>
  rw [f98] at h
  have aD:=kP (P:=PP) (cf:=evF PP T n) (fl:=0) (H:=[]) (f:=false) (c:=kI) (l:=aA)
  have aE:=kP (P:=PP) (cf:=evF PP T n) (fl:=0) (H:=[]) (f:=false) (c:=kI) (l:=aB)
  rcases cn h with ⟨aJ,aC,h⟩ | ⟨aJ,aC,h⟩
  ·obtain rfl:=si h
   exact pv_q F98 (qa 10 aC<|qb 9 aE<|qb 7 aD<|q0) [] []
  have aH:=kP (P:=PP) (cf:=evF PP T n) (fl:=0) (H:=[]) (f:=false) (c:=kI) (l:=aA)
  have aI : kV false 0 0 []:=trivial
  rcases kQ h with ⟨aK,aF,h⟩ | ⟨aL,aF,h⟩
  ·have aG:=aA7 n aA aB n 0 _ aF
   obtain rfl:=si h
   exact pv_q F98 (qp aG<|qp aI<|qb 12 aH<|qa 10 aC<|qb 9 aE<|qb 7 aD<|q0) [(.ret,aA9 aA aB)] []
  have aG:=aA7 n aA aB n 0 _ aF
  obtain rfl:=si h
  exact pv_q F98 (qp aG<|qp aI<|qb 12 aH<|qa 10 aC<|qb 9 aE<|qb 7 aD<|q0) [((.exit 0),aA8 aA aB)] []
def aJ1 (aA : (List Int)) (aB : (List Int)) (aC : Int) : St:=⟨[(.sl false (List.map kL aA)),(.sl false (List.map kL aB)),U,U,U,U,U,U,U,U,U,U,(iv ((aA.length : Nat) : Int)),(iv aC),U,U,U,U,U,U,U,U,U,U,U,U],[]⟩
def aA6 (aA : (List Int)) (aB : (List Int)) : St:=⟨[U,U,U,U,bf,U,U,U,U,U,U,U,U,U,U,U,U,U,U,U,U,U,U,U,U,U],[]⟩
def aA5 (aA : (List Int)) (aB : (List Int)) : St:=⟨[U,U,U,U,U,U,U,U,U,U,U,U,U,U,U,U,U,U,U,U,U,U,U,U,U,U],[]⟩
def aDn (n : Nat) (aB : (List Int)) (aC : (List Int)) : Nat→Int→Option (Unit ⊕ Unit)
 | 0,_=>none
 | m + 1,aA=>(cnd (decide (aA < ((aB.length : Nat) : Int))) (bnd (idx aB aA) fun aD=>(bnd (idx aC aA) fun aE=>(cnd (aD != aE) (some (Sum.inl ())) (aDn n aB aC m (IntKind.i64.wrap (aA + 1)))))) (some (Sum.inr ())))
theorem aA4 (n : Nat) (aA : (List Int)) (aB : (List Int)) : ∀ (m : Nat) (aC : Int) (r : (Unit ⊕ Unit)),aDn n aA aB m aC=some r→lT [] lv1 false 0 0 (kW (kY (some lv0) false 0 0) (evC PP (evF PP T n) n 0 bBf) m (aJ1 aA aB aC))=(match r with | .inl r=>some (.ret,aA6 aA aB) | .inr r=>some ((.exit 0),aA5 aA aB))
 | 0,_,_,h=>by cases h
 | m + 1,aC,r,h=>by
  rw [aDn] at h
  rcases cn h with ⟨aH,aD,h⟩ | ⟨aH,aD,h⟩
  rotate_left
  ·obtain rfl:=si h
   exact kX (some lv0) false (aA5 aA aB) (qa 14 aD<|q0) [] [] trivial
  obtain ⟨aL,aI,h⟩:=kE h
  have aF:=idxl (H:=[]) (f:=false) (c:=kL) aI (lS _)
  obtain ⟨aM,aJ,h⟩:=kE h
  have aG:=idxl (H:=[]) (f:=false) (c:=kL) aJ (lS _)
  rcases cn h with ⟨aK,aE,h⟩ | ⟨aK,aE,h⟩
  ·obtain rfl:=si h
   exact kX (some lv0) false (aA6 aA aB) (qa 24 aE<|qa 22 aG<|qa 18 aF<|qa 14 aD<|q0) [] [] trivial
  exact nx_q (aJ1 aA aB (IntKind.i64.wrap (aC + 1))) (qa 24 aE<|qa 22 aG<|qa 18 aF<|qa 14 aD<|q0) [] [] trivial (aA4 n aA aB m (IntKind.i64.wrap (aC + 1)) r h)
def f99 : Nat→(List Int)→(List Int)→Option Bool
 | 0,_,_=>none
 | n + 1,aA,aB=>(cnd (((aA.length : Nat) : Int) != ((aB.length : Nat) : Int)) (some false) (bnd2 (aDn n aA aB n 0) (fun aC=>(some false)) (fun aD=>(some true))))
theorem aSh (n : Nat) (aA : (List Int)) (aB : (List Int)) (r : Bool) (h : f99 n aA aB=some r) : pv PP T n 99 [(.sl false (List.map kL aA)),(.sl false (List.map kL aB))]=some (bv r):=by
 cases n with
 | zero=>cases h
 | succ n =>
  rw [f99] at h
  have aD:=kP (P:=PP) (cf:=evF PP T n) (fl:=0) (H:=[]) (f:=false) (c:=kL) (l:=aA)
  have aE:=kP (P:=PP) (cf:=evF PP T n) (fl:=0) (H:=[]) (f:=false) (c:=kL) (l:=aB)
  rcases cn h with ⟨aJ,aC,h⟩ | ⟨aJ,aC,h⟩
  ·obtain rfl:=si h
   exact pv_q F99 (qa 10 aC<|qb 9 aE<|qb 7 aD<|q0) [] []
  have aH:=kP (P:=PP) (cf:=evF PP T n) (fl:=0) (H:=[]) (f:=false) (c:=kL) (l:=aA)
  have aI : kV false 0 0 []:=trivial
  rcases kQ h with ⟨aK,aF,h⟩ | ⟨aL,aF,h⟩
  ·have aG:=aA4 n aA aB n 0 _ aF
   obtain rfl:=si h
   exact pv_q F99 (qp aG<|qp aI<|qb 12 aH<|qa 10 aC<|qb 9 aE<|qb 7 aD<|q0) [(.ret,aA6 aA aB)] []
  have aG:=aA4 n aA aB n 0 _ aF
  obtain rfl:=si h
  exact pv_q F99 (qp aG<|qp aI<|qb 12 aH<|qa 10 aC<|qb 9 aE<|qb 7 aD<|q0) [((.exit 0),aA5 aA aB)] []
abbrev hp0 (a115 : GEdit) (a116 : GEdit) : Heap:=[(.blk 10 [(kD a115)]),(.blk 10 [(kD a116)])]
def f78 : Nat→GEdit→GEdit→Option Bool
 | 0,_,_=>none
 | n + 1,aA,aB=>(cnd (aA.Kind == aB.Kind) (cnd (aA.ID == aB.ID) (cnd (aA.A == aB.A) (cnd (aA.B == aB.B) (cnd (aA.C == aB.C) (cnd (decide (aA.At=aB.At)) (bnd (f98 n aA.Via aB.Via) fun aC=>(cnd (aC) (cnd (decide (aA.Name=aB.Name)) (bnd (f99 n aA.Parts aB.Parts) fun aD=>(cnd (aD) (some true) (some false))) (some false)) (some false))) (some false)) (some false)) (some false)) (some false)) (some false)) (some false))
theorem aSq (n : Nat) (aA : GEdit) (aB : GEdit) (r : Bool) (h : f78 n aA aB=some r) : pv PP T n 78 [(.agg (kD aA)),(.agg (kD aB))]=some (bv r):=by
 cases n with
 | zero=>cases h
 | succ n =>
  rw [f78] at h
  rcases cn h with ⟨aQ,aC,h⟩ | ⟨aQ,aC,h⟩
  rotate_left
  ·obtain rfl:=si h
   exact pv_q F78 (qa 9 aC<|q0) [] []
  rcases cn h with ⟨aR,aD,h⟩ | ⟨aR,aD,h⟩
  rotate_left
  ·obtain rfl:=si h
   exact pv_q F78 (qa 15 aD<|qa 9 aC<|q0) [] []
  rcases cn h with ⟨aS,aE,h⟩ | ⟨aS,aE,h⟩
  rotate_left
  ·obtain rfl:=si h
   exact pv_q F78 (qa 22 aE<|qa 15 aD<|qa 9 aC<|q0) [] []
  rcases cn h with ⟨aT,aF,h⟩ | ⟨aT,aF,h⟩
  rotate_left
  ·obtain rfl:=si h
   exact pv_q F78 (qa 29 aF<|qa 22 aE<|qa 15 aD<|qa 9 aC<|q0) [] []
  rcases cn h with ⟨aU,aG,h⟩ | ⟨aU,aG,h⟩
  rotate_left
  ·obtain rfl:=si h
   exact pv_q F78 (qa 36 aG<|qa 29 aF<|qa 22 aE<|qa 15 aD<|qa 9 aC<|q0) [] []
  rcases cn h with ⟨aI,aV,h⟩ | ⟨aI,aV,h⟩
  rotate_left
  ·have aW:=qJ (cf:=evF PP T n) (fl:=0) (H:=(hp0 aA aB)) (a:=aA.At) (b:=aB.At) aI
   obtain rfl:=si h
   exact pv_q F78 (qb 43 aW<|qa 36 aG<|qa 29 aF<|qa 22 aE<|qa 15 aD<|qa 9 aC<|q0) [] []
  have aH:=qJ (cf:=evF PP T n) (fl:=0) (H:=(hp0 aA aB)) (a:=aA.At) (b:=aB.At) aI
  obtain ⟨ae,aN,h⟩:=kE h
  rcases cn h with ⟨aJ,aX,h⟩ | ⟨aJ,aX,h⟩
  rotate_left
  ·have aY:=by have q:=aSi n aA.Via aB.Via _ aN; rw [aJ] at q; exact q
   obtain rfl:=si h
   exact pv_q F78 (qa 50 aY<|qb 43 aH<|qa 36 aG<|qa 29 aF<|qa 22 aE<|qa 15 aD<|qa 9 aC<|q0) [] []
  have aK:=by have q:=aSi n aA.Via aB.Via _ aN; rw [aJ] at q; exact q
  rcases cn h with ⟨aL,aZ,h⟩ | ⟨aL,aZ,h⟩
  rotate_left
  ·have aa:=lL (P:=PP) (cf:=evF PP T n) (fl:=0) (H:=(hp0 aA aB)) (t:=9) aL
   obtain rfl:=si h
   exact pv_q F78 (qb 57 aa<|qa 50 aK<|qb 43 aH<|qa 36 aG<|qa 29 aF<|qa 22 aE<|qa 15 aD<|qa 9 aC<|q0) [] []
  have aO:=lL (P:=PP) (cf:=evF PP T n) (fl:=0) (H:=(hp0 aA aB)) (t:=9) aL
  obtain ⟨af,aP,h⟩:=kE h
  rcases cn h with ⟨aM,ab,h⟩ | ⟨aM,ab,h⟩
  ·have ac:=by have q:=aSh n aA.Parts aB.Parts _ aP; rw [aM] at q; exact q
   obtain rfl:=si h
   exact pv_q F78 (qa 64 ac<|qb 57 aO<|qa 50 aK<|qb 43 aH<|qa 36 aG<|qa 29 aF<|qa 22 aE<|qa 15 aD<|qa 9 aC<|q0) [] []
  have ad:=by have q:=aSh n aA.Parts aB.Parts _ aP; rw [aM] at q; exact q
  obtain rfl:=si h
  exact pv_q F78 (qa 64 ad<|qb 57 aO<|qa 50 aK<|qb 43 aH<|qa 36 aG<|qa 29 aF<|qa 22 aE<|qa 15 aD<|qa 9 aC<|q0) [] []
def f84 : Nat→Int→Option Bool
 | 0,_=>none
 | n + 1,aA=>(cnd (aA != aA) (some true) (some false))
theorem aDq (n : Nat) (aB : Int) (r : Bool) (h : f84 n aB=some r) : pv PP T n 84 [(iv aB)]=some (bv r):=by
 cases n with
 | zero=>cases h
 | succ n =>
  rw [f84] at h
  rcases cn h with ⟨aC,aA,h⟩ | ⟨aC,aA,h⟩
  ·obtain rfl:=si h
   exact pv_q F84 (qa 5 aA<|q0) [] []
  obtain rfl:=si h
  exact pv_q F84 (qa 5 aA<|q0) [] []
def f63 : Nat→Int→Int→Option Int
 | 0,_,_=>none
 | n + 1,aB,aA=>(bnd (f84 n aB) fun aC=>(cnd (aC) (bnd (f84 n aA) fun aD=>(cnd (aD) (some 0) (some (-1)))) (bnd (f84 n aA) fun aE=>(cnd (aE) (some 1) (cnd (decide (aB < aA)) (some (-1)) (cnd (decide (aB > aA)) (some 1) (some 0)))))))
theorem aO1 (n : Nat) (aB : Int) (aA : Int) (r : Int) (h : f63 n aB aA=some r) : pv PP T n 63 [(iv aB),(iv aA)]=some (iv r):=by
 cases n with
 | zero=>cases h
 | succ n =>
  rw [f63] at h
  obtain ⟨aV,aJ,h⟩:=kE h
  rcases cn h with ⟨aE,aN,h⟩ | ⟨aE,aN,h⟩
  ·have aK:=by have q:=aDq n aB _ aJ; rw [aE] at q; exact q
   obtain ⟨aW,aL,h⟩:=kE h
   rcases cn h with ⟨aF,aO,h⟩ | ⟨aF,aO,h⟩
   ·have aP:=by have q:=aDq n aA _ aL; rw [aF] at q; exact q
    obtain rfl:=si h
    exact pv_q F63 (qa 10 aP<|qa 8 aK<|q0) [] []
   have aQ:=by have q:=aDq n aA _ aL; rw [aF] at q; exact q
   obtain rfl:=si h
   exact pv_q F63 (qa 10 aQ<|qa 8 aK<|q0) [] []
  have aC:=by have q:=aDq n aB _ aJ; rw [aE] at q; exact q
  obtain ⟨aX,aM,h⟩:=kE h
  rcases cn h with ⟨aG,aR,h⟩ | ⟨aG,aR,h⟩
  ·have aS:=by have q:=aDq n aA _ aM; rw [aG] at q; exact q
   obtain rfl:=si h
   exact pv_q F63 (qa 10 aS<|qa 8 aC<|q0) [] []
  have aH:=by have q:=aDq n aA _ aM; rw [aG] at q; exact q
  rcases cn h with ⟨aT,aD,h⟩ | ⟨aT,aD,h⟩
  ·obtain rfl:=si h
   exact pv_q F63 (qa 16 aD<|qa 10 aH<|qa 8 aC<|q0) [] []
  rcases cn h with ⟨aU,aI,h⟩ | ⟨aU,aI,h⟩
  ·obtain rfl:=si h
   exact pv_q F63 (qa 19 aI<|qa 16 aD<|qa 10 aH<|qa 8 aC<|q0) [] []
  obtain rfl:=si h
  exact pv_q F63 (qa 19 aI<|qa 16 aD<|qa 10 aH<|qa 8 aC<|q0) [] []
def aKf (aA : (List Int)) (aB : Int) : St:=⟨[U,U,U,(iv 0),U,U,(.sl false (List.map kL aA)),(iv ((aA.length : Nat) : Int)),(iv aB),U,U,U,U,U,U,U,U,U],[]⟩
def aBy (aB : (List Int)) (aA : Int) : St:=⟨[U,U,(iv aA),U,U,U,U,U,U,U,U,U,U,U,U,U,U,U],[]⟩
def aBx (aA : (List Int)) : St:=⟨[U,U,U,(iv 0),U,U,U,U,U,U,U,U,U,U,U,U,U,U],[]⟩
def wM (n : Nat) (aA : (List Int)) : Nat→Int→Option (Int ⊕ Unit)
 | 0,_=>none
 | m + 1,aB=>(cnd (decide (aB < ((aA.length : Nat) : Int))) (bnd (idx aA aB) fun aC=>(cnd (aC != 0) (some (Sum.inl aC)) (wM n aA m (IntKind.i64.wrap (aB + 1))))) (some (Sum.inr ())))
theorem aBv (n : Nat) (aA : (List Int)) : ∀ (m : Nat) (aB : Int) (r : (Int ⊕ Unit)),wM n aA m aB=some r→lT [false,false,false,true] [false,false,true] false 0 0 (kW (kY (some lv2) false 0 0) (evC PP (evF PP T n) n 0 bBs) m (aKf aA aB))=(match r with | .inl r=>some (.ret,aBy aA r) | .inr r=>some ((.exit 0),aBx aA))
 | 0,_,_,h=>by cases h
 | m + 1,aB,r,h=>by
  rw [wM] at h
  rcases cn h with ⟨aF,aC,h⟩ | ⟨aF,aC,h⟩
  rotate_left
  ·obtain rfl:=si h
   exact kX (some lv2) false (aBx aA) (qa 9 aC<|q0) [] [] trivial
  obtain ⟨aG,aH,h⟩:=kE h
  have aE:=idxl (H:=[]) (f:=false) (c:=kL) aH (lS _)
  rcases cn h with ⟨aI,aD,h⟩ | ⟨aI,aD,h⟩
  ·obtain rfl:=si h
   exact kX (some lv2) false (aBy aA aG) (qa 14 aD<|qa 10 aE<|qa 9 aC<|q0) [] [] trivial
  exact nx_q (aKf aA (IntKind.i64.wrap (aB + 1))) (qa 14 aD<|qa 10 aE<|qa 9 aC<|q0) [] [] trivial (aBv n aA m (IntKind.i64.wrap (aB + 1)) r h)
def f64 : Nat→(List Int)→Option Int
 | 0,_=>none
 | n + 1,aA=>(bnd2 (wM n aA n 0) (fun aB=>(some aB)) (fun aC=>(some 0)))
theorem aYc (n : Nat) (aA : (List Int)) (r : Int) (h : f64 n aA=some r) : pv PP T n 64 [(.sl false (List.map kL aA))]=some (iv r):=by
 cases n with
 | zero=>cases h
 | succ n =>
  rw [f64] at h
  have aD:=kP (P:=PP) (cf:=evF PP T n) (fl:=0) (H:=[]) (f:=false) (c:=kL) (l:=aA)
  have aE : kV false 0 0 []:=trivial
  rcases kQ h with ⟨aF,aB,h⟩ | ⟨aG,aB,h⟩
  ·have aC:=aBv n aA n 0 _ aB
   obtain rfl:=si h
   exact pv_q F64 (qp aC<|qp aE<|qb 7 aD<|q0) [(.ret,aBy aA aF)] []
  have aC:=aBv n aA n 0 _ aB
  obtain rfl:=si h
  exact pv_q F64 (qp aC<|qp aE<|qb 7 aD<|q0) [((.exit 0),aBx aA)] []
def f39 : Nat→GTxn→GTxn→Option Int
 | 0,_,_=>none
 | n + 1,aA,aB=>(bnd (f63 n aA.Time aB.Time) fun aC=>(bnd (f63 n aA.Office aB.Office) fun aD=>(bnd (f63 n aA.Seq aB.Seq) fun aE=>(bnd (f64 n [aC,aD,aE]) fun aF=>(some aF)))))
theorem aGt (n : Nat) (aA : GTxn) (aB : GTxn) (r : Int) (h : f39 n aA aB=some r) : pv PP T n 39 [(.agg (kF aA)),(.agg (kF aB))]=some (iv r):=by
 cases n with
 | zero=>cases h
 | succ n =>
  rw [f39] at h
  obtain ⟨aC,aD,h⟩:=kE h
  have aE:=aO1 n aA.Time aB.Time _ aD
  obtain ⟨aF,aG,h⟩:=kE h
  have aH:=aO1 n aA.Office aB.Office _ aG
  obtain ⟨aI,aJ,h⟩:=kE h
  have aK:=aO1 n aA.Seq aB.Seq _ aJ
  obtain ⟨aN,aL,h⟩:=kE h
  have aM:=aYc n [aC,aF,aI] _ aL
  obtain rfl:=si h
  exact pv_q F39 (qa 21 aM<|qa 19 aK<|qa 14 aH<|qa 9 aE<|q0) [] []
abbrev hp1 (a227 : GTxn) (a228 : GTxn) : Heap:=[(.blk 5 [(kF a227)]),(.blk 5 [(kF a228)])]
def tC (aB : GTxn) (aA : GTxn) (aC : Int) : St:=⟨[U,(.sl false (List.map kD aB.Edits)),(.fn 78 []),U,U,U,U,U,U,U,U,U,U,U,U,(.sl false (List.map kD aA.Edits)),(iv ((aA.Edits.length : Nat) : Int)),(iv aC),U,U,U,U,U,U,U,U,U,U,U,U,U,U],[(.blk 5 [(kF aA)]),(.blk 5 [(kF aB)])]⟩
theorem aGq (aA : GTxn) (aB : GTxn) (aC : Int) : kV true 0 2 (tC aA aB aC).heap:=(by exact (clo rfl (clo rfl rfl)))
def rV (aA : GTxn) (aB : GTxn) (aC : Int) (aD : Int) (aE : Int) (aF : Int) (aG : Int) (aH : Int) (aI : Int) (aJ : (List GPoint)) (aK : ByteArray) (aL : (List Int)) (aM : Int) (aN : Int) (aO : Int) (aP : Int) (aQ : Int) (aR : Int) (aS : Int) (aT : (List GPoint)) (aU : ByteArray) (aV : (List Int)) : St:=⟨[U,U,U,U,U,U,bf,U,U,U,U,U,U,U,U,U,U,U,U,U,U,U,U,U,U,U,U,U,U,U,U,U],[(.blk 5 [(kF aB)]),(.blk 5 [(kF aA)]),(.blk 10 [[(iv aC),(iv aD),(iv aE),(iv aF),(iv aG),(iv aH),(iv aI),(.sl false (List.map kI aJ)),(sv aK),(.sl false (List.map kL aL))]]),(.blk 10 [[(iv aM),(iv aN),(iv aO),(iv aP),(iv aQ),(iv aR),(iv aS),(.sl false (List.map kI aT)),(sv aU),(.sl false (List.map kL aV))]])]⟩
def rU (aA : GTxn) (aB : GTxn) : St:=⟨[U,U,U,U,U,U,U,U,U,U,U,U,U,U,U,U,U,U,U,U,U,U,U,U,U,U,U,U,U,U,U,U],[(.blk 5 [(kF aB)]),(.blk 5 [(kF aA)])]⟩
abbrev hp2 (a227 : GTxn) (a228 : GTxn) (x301 : GEdit) : Heap:=[(.blk 5 [(kF a227)]),(.blk 5 [(kF a228)]),(.blk 10 [(kD x301)])]
abbrev hp3 (a227 : GTxn) (a228 : GTxn) (x301 : GEdit) (x304 : GEdit) : Heap:=[(.blk 5 [(kF a227)]),(.blk 5 [(kF a228)]),(.blk 10 [(kD x301)]),(.blk 10 [(kD x304)])]
def nP (n : Nat) (aE : GTxn) (aD : GTxn) : Nat→Int→Option ((Int × Int × Int × Int × Int × Int × Int × (List GPoint) × ByteArray × (List Int) × Int × Int × Int × Int × Int × Int × Int × (List GPoint) × ByteArray × (List Int)) ⊕ Unit)
 | 0,_=>none
 | m + 1,aC=>(cnd (decide (aC < ((aD.Edits.length : Nat) : Int))) (bnd (idx aD.Edits aC) fun aA=>(bnd (idx aE.Edits aC) fun aB=>(bnd (f78 n aA aB) fun aF=>(cnd (aF) (nP n aE aD m (IntKind.i64.wrap (aC + 1))) (some (Sum.inl (aA.Kind,aA.ID,aA.A,aA.B,aA.C,aA.At.X,aA.At.Y,aA.Via,aA.Name,aA.Parts,aB.Kind,aB.ID,aB.A,aB.B,aB.C,aB.At.X,aB.At.Y,aB.Via,aB.Name,aB.Parts))))))) (some (Sum.inr ())))
theorem rT (n : Nat) (aC : GTxn) (aD : GTxn) : ∀ (m : Nat) (aE : Int) (r : ((Int × Int × Int × Int × Int × Int × Int × (List GPoint) × ByteArray × (List Int) × Int × Int × Int × Int × Int × Int × Int × (List GPoint) × ByteArray × (List Int)) ⊕ Unit)),nP n aC aD m aE=some r→lT [] lv4 true 0 2 (kW (kY (some lv3) true 0 2) (evC PP (evF PP T n) n 0 bBj) m (tC aC aD aE))=(match r with | .inl r=>some (.ret,rV aC aD r.1 r.2.1 r.2.2.1 r.2.2.2.1 r.2.2.2.2.1 r.2.2.2.2.2.1 r.2.2.2.2.2.2.1 r.2.2.2.2.2.2.2.1 r.2.2.2.2.2.2.2.2.1 r.2.2.2.2.2.2.2.2.2.1 r.2.2.2.2.2.2.2.2.2.2.1 r.2.2.2.2.2.2.2.2.2.2.2.1 r.2.2.2.2.2.2.2.2.2.2.2.2.1 r.2.2.2.2.2.2.2.2.2.2.2.2.2.1 r.2.2.2.2.2.2.2.2.2.2.2.2.2.2.1 r.2.2.2.2.2.2.2.2.2.2.2.2.2.2.2.1 r.2.2.2.2.2.2.2.2.2.2.2.2.2.2.2.2.1 r.2.2.2.2.2.2.2.2.2.2.2.2.2.2.2.2.2.1 r.2.2.2.2.2.2.2.2.2.2.2.2.2.2.2.2.2.2.1 r.2.2.2.2.2.2.2.2.2.2.2.2.2.2.2.2.2.2.2) | .inr r=>some ((.exit 0),rU aC aD))
 | 0,_,_,h=>by cases h
 | m + 1,aE,r,h=>by
  rw [nP] at h
  rcases cn h with ⟨aK,aF,h⟩ | ⟨aK,aF,h⟩
  rotate_left
  ·obtain rfl:=si h
   exact kX (some lv3) true (rU aC aD) (qa 18 aF<|q0) [] [] (by exact (clo rfl (clo rfl rfl)))
  obtain ⟨aA,aL,h⟩:=kE h
  have aH:=idxl (H:=(hp1 aD aC)) (f:=false) (c:=kD) aL (lP _)
  obtain ⟨aB,aM,h⟩:=kE h
  have aI:=idxl (H:=(hp2 aD aC aA)) (f:=false) (c:=kD) aM (lP _)
  obtain ⟨aS,aJ,h⟩:=kE h
  rcases cn h with ⟨aG,aN,h⟩ | ⟨aG,aN,h⟩
  ·have aO:=by have q:=aSq n aA aB _ aJ; rw [aG] at q; exact q
   have aP:=xI (fl:=0) (H:=(hp3 aD aC aA aB)) rfl rfl aO
   exact nx_q (tC aC aD (IntKind.i64.wrap (aE + 1))) (qb 29 aP<|qa 24 aI<|qa 20 aH<|qa 18 aF<|q0) [] [none,none] (aGq _ _ _) (rT n aC aD m (IntKind.i64.wrap (aE + 1)) r h)
  have aQ:=by have q:=aSq n aA aB _ aJ; rw [aG] at q; exact q
  have aR:=xI (fl:=0) (H:=(hp3 aD aC aA aB)) rfl rfl aQ
  obtain rfl:=si h
  exact kX (some lv3) true (rV aC aD aA.Kind aA.ID aA.A aA.B aA.C aA.At.X aA.At.Y aA.Via aA.Name aA.Parts aB.Kind aB.ID aB.A aB.B aB.C aB.At.X aB.At.Y aB.Via aB.Name aB.Parts) (qb 29 aR<|qa 24 aI<|qa 20 aH<|qa 18 aF<|q0) [] [none,none] trivial
abbrev hp4 (a227 : GTxn) (a228 : GTxn) (v318 : (Int × Int × Int × Int × Int × Int × Int × (List GPoint) × ByteArray × (List Int) × Int × Int × Int × Int × Int × Int × Int × (List GPoint) × ByteArray × (List Int))) : Heap:=[(.blk 5 [(kF a227)]),(.blk 5 [(kF a228)]),(.blk 10 [[(iv v318.1),(iv v318.2.1),(iv v318.2.2.1),(iv v318.2.2.2.1),(iv v318.2.2.2.2.1),(iv v318.2.2.2.2.2.1),(iv v318.2.2.2.2.2.2.1),(.sl false (List.map kI v318.2.2.2.2.2.2.2.1)),(sv v318.2.2.2.2.2.2.2.2.1),(.sl false (List.map kL v318.2.2.2.2.2.2.2.2.2.1))]]),(.blk 10 [[(iv v318.2.2.2.2.2.2.2.2.2.2.1),(iv v318.2.2.2.2.2.2.2.2.2.2.2.1),(iv v318.2.2.2.2.2.2.2.2.2.2.2.2.1),(iv v318.2.2.2.2.2.2.2.2.2.2.2.2.2.1),(iv v318.2.2.2.2.2.2.2.2.2.2.2.2.2.2.1),(iv v318.2.2.2.2.2.2.2.2.2.2.2.2.2.2.2.1),(iv v318.2.2.2.2.2.2.2.2.2.2.2.2.2.2.2.2.1),(.sl false (List.map kI v318.2.2.2.2.2.2.2.2.2.2.2.2.2.2.2.2.2.1)),(sv v318.2.2.2.2.2.2.2.2.2.2.2.2.2.2.2.2.2.2.1),(.sl false (List.map kL v318.2.2.2.2.2.2.2.2.2.2.2.2.2.2.2.2.2.2.2))]])]
def f49 : Nat→GTxn→GTxn→Option Bool
 | 0,_,_=>none
 | n + 1,aA,aB=>(bnd (f39 n aA aB) fun aD=>(cnd (aD == 0) (cnd (decide (aA.Source=aB.Source)) (bnd (prd n) fun aC=>(cnd (((aA.Edits.length : Nat) : Int) != ((aB.Edits.length : Nat) : Int)) (some false) (bnd2 (nP aC aB aA aC 0) (fun aE=>(some false)) (fun aF=>(some true))))) (some false)) (some false)))
theorem aSy (n : Nat) (aA : GTxn) (aB : GTxn) (r : Bool) (h : f49 n aA aB=some r) : pv PP T n 49 [(.agg (kF aA)),(.agg (kF aB))]=some (bv r):=by
 cases n with
 | zero=>cases h
 | succ n =>
  rw [f49] at h
  obtain ⟨aZ,aQ,h⟩:=kE h
  have aF:=aGt n aA aB _ aQ
  rcases cn h with ⟨aR,aE,h⟩ | ⟨aR,aE,h⟩
  rotate_left
  ·obtain rfl:=si h
   exact pv_q F49 (qa 8 aE<|qa 7 aF<|q0) [] []
  rcases cn h with ⟨aH,aS,h⟩ | ⟨aH,aS,h⟩
  rotate_left
  ·have aT:=lL (P:=PP) (cf:=evF PP T n) (fl:=0) (H:=(hp1 aA aB)) (t:=9) aH
   obtain rfl:=si h
   exact pv_q F49 (qb 14 aT<|qa 8 aE<|qa 7 aF<|q0) [] []
  have aI:=lL (P:=PP) (cf:=evF PP T n) (fl:=0) (H:=(hp1 aA aB)) (t:=9) aH
  obtain ⟨aD,aU,h⟩:=kE h
  have aJ:=lD aU
  have aK:=kP (P:=PP) (cf:=evF PP T aD) (fl:=0) (H:=(hp1 aA aB)) (f:=false) (c:=kD) (l:=aA.Edits)
  have aL:=kP (P:=PP) (cf:=evF PP T aD) (fl:=0) (H:=(hp1 aA aB)) (f:=false) (c:=kD) (l:=aB.Edits)
  rcases cn h with ⟨aV,aG,h⟩ | ⟨aV,aG,h⟩
  ·have aW : evF PP T n 0 77 [(.sl false (List.map kD aA.Edits)),(.sl false (List.map kD aB.Edits)),(.fn 78 [])] (hp1 aA aB)=some (bf,(hp1 aA aB)):=by
    rw [aJ]; exact kT F77 (qa 14 aG<|qb 13 aL<|qb 11 aK<|q0) [] []
   obtain rfl:=si h
   exact pv_q F49 (qb 21 aW<|qb 14 aI<|qa 8 aE<|qa 7 aF<|q0) [] []
  have aO:=kP (P:=PP) (cf:=evF PP T aD) (fl:=0) (H:=(hp1 aA aB)) (f:=false) (c:=kD) (l:=aA.Edits)
  have aP : kV true 0 2 [(.blk 5 [(kF aA)]),(.blk 5 [(kF aB)])]:=(by exact (clo rfl (clo rfl rfl)))
  rcases kQ h with ⟨aC,aM,h⟩ | ⟨aa,aM,h⟩
  rotate_left
  ·have aN:=rT aD aB aA aD 0 _ aM
   have aX : evF PP T n 0 77 [(.sl false (List.map kD aA.Edits)),(.sl false (List.map kD aB.Edits)),(.fn 78 [])] (hp1 aA aB)=some (bt,(hp1 aA aB)):=by
    rw [aJ]; exact kT F77 (qp aN<|qp aP<|qb 16 aO<|qa 14 aG<|qb 13 aL<|qb 11 aK<|q0) [((.exit 0),rU aB aA)] []
   obtain rfl:=si h
   exact pv_q F49 (qb 21 aX<|qb 14 aI<|qa 8 aE<|qa 7 aF<|q0) [] []
  have aN:=rT aD aB aA aD 0 _ aM
  have aY : evF PP T n 0 77 [(.sl false (List.map kD aA.Edits)),(.sl false (List.map kD aB.Edits)),(.fn 78 [])] (hp1 aA aB)=some (bf,(hp4 aA aB aC)):=by
   rw [aJ]; exact kT F77 (qp aN<|qp aP<|qb 16 aO<|qa 14 aG<|qb 13 aL<|qb 11 aK<|q0) [(.ret,rV aB aA aC.1 aC.2.1 aC.2.2.1 aC.2.2.2.1 aC.2.2.2.2.1 aC.2.2.2.2.2.1 aC.2.2.2.2.2.2.1 aC.2.2.2.2.2.2.2.1 aC.2.2.2.2.2.2.2.2.1 aC.2.2.2.2.2.2.2.2.2.1 aC.2.2.2.2.2.2.2.2.2.2.1 aC.2.2.2.2.2.2.2.2.2.2.2.1 aC.2.2.2.2.2.2.2.2.2.2.2.2.1 aC.2.2.2.2.2.2.2.2.2.2.2.2.2.1 aC.2.2.2.2.2.2.2.2.2.2.2.2.2.2.1 aC.2.2.2.2.2.2.2.2.2.2.2.2.2.2.2.1 aC.2.2.2.2.2.2.2.2.2.2.2.2.2.2.2.2.1 aC.2.2.2.2.2.2.2.2.2.2.2.2.2.2.2.2.2.1 aC.2.2.2.2.2.2.2.2.2.2.2.2.2.2.2.2.2.2.1 aC.2.2.2.2.2.2.2.2.2.2.2.2.2.2.2.2.2.2.2)] []
  obtain rfl:=si h
  exact pv_q F49 (qc 21 aY<|qb 14 aI<|qa 8 aE<|qa 7 aF<|q0) [] []
def aO2 (aA : (List GEdit)) (aB : Int) : St:=⟨[(.sl false (List.map kD aA)),U,U,(iv aB),U,U,U,U,U,U,U,U,U,U,U,U,U,U,U,U,U,U,U,U,U,U,U,U,U,U,U,U,U,U,U,U,U,U,U,U,U,U],[]⟩
def wQ (aA : (List GEdit)) : St:=⟨[U,U,bf,U,U,U,U,U,U,U,U,U,U,U,U,U,U,U,U,U,U,U,U,U,U,U,U,U,U,U,U,U,U,U,U,U,U,U,U,U,U,U],[]⟩
def wP (aA : (List GEdit)) : St:=⟨[(.sl false (List.map kD aA)),U,U,U,U,U,U,U,U,U,U,U,U,U,U,U,U,U,U,U,U,U,U,U,U,U,U,U,U,U,U,U,U,U,U,U,U,U,U,U,U,U],[]⟩
def aGp (n : Nat) (aB : (List GEdit)) : Nat→Int→Option (Unit ⊕ Unit)
 | 0,_=>none
 | m + 1,aA=>(cnd (decide (aA < ((aB.length : Nat) : Int))) (cnd (decide (aA < 7)) (bnd (idx aB aA) fun aC=>(cnd (decide (((aC.Via.length : Nat) : Int) > 20)) (some (Sum.inl ())) (cnd (decide (((aC.Parts.length : Nat) : Int) > 20)) (some (Sum.inl ())) (cnd (decide (((aC.Name.size : Nat) : Int) > 100)) (some (Sum.inl ())) (aGp n aB m (IntKind.i64.wrap (aA + 1))))))) (some (Sum.inr ()))) (some (Sum.inr ())))
theorem aE6 (n : Nat) (aA : (List GEdit)) : ∀ (m : Nat) (aE : Int) (r : (Unit ⊕ Unit)),aGp n aA m aE=some r→lT [true] [false,false,true] false 0 0 (kW (kY (some [true,false,false,true]) false 0 0) (evC PP (evF PP T n) n 0 L4_0) m (aO2 aA aE))=(match r with | .inl r=>some (.ret,wQ aA) | .inr r=>some ((.exit 0),wP aA))
 | 0,_,_,h=>by cases h
 | m + 1,aE,r,h=>by
  rw [aGp] at h
  have aC:=kP (P:=PP) (cf:=evF PP T n) (fl:=0) (H:=[]) (f:=false) (c:=kD) (l:=aA)
  rcases cn h with ⟨aQ,aB,h⟩ | ⟨aQ,aB,h⟩
  rotate_left
  ·obtain rfl:=si h
   exact kX (some [true,false,false,true]) false (wP aA) (qa 7 aB<|qb 6 aC<|q0) [] [] trivial
  rcases cn h with ⟨aR,aD,h⟩ | ⟨aR,aD,h⟩
  rotate_left
  ·obtain rfl:=si h
   exact kX (some [true,false,false,true]) false (wP aA) (qa 10 aD<|qa 7 aB<|qb 6 aC<|q0) [] [] trivial
  obtain ⟨aJ,aK,h⟩:=kE h
  have aG:=idxl (H:=[]) (f:=false) (c:=kD) aK (lP _)
  have aH:=kP (P:=PP) (cf:=evF PP T n) (fl:=0) (H:=[]) (f:=false) (c:=kI) (l:=aJ.Via)
  rcases cn h with ⟨aS,aF,h⟩ | ⟨aS,aF,h⟩
  ·obtain rfl:=si h
   exact kX (some [true,false,false,true]) false (wQ aA) (qa 20 aF<|qb 19 aH<|qa 16 aG<|qa 10 aD<|qa 7 aB<|qb 6 aC<|q0) [] [] trivial
  have aL:=idxl (H:=[]) (f:=false) (c:=kD) aK (lP _)
  have aM:=kP (P:=PP) (cf:=evF PP T n) (fl:=0) (H:=[]) (f:=false) (c:=kL) (l:=aJ.Parts)
  rcases cn h with ⟨aT,aI,h⟩ | ⟨aT,aI,h⟩
  ·obtain rfl:=si h
   exact kX (some [true,false,false,true]) false (wQ aA) (qa 28 aI<|qb 27 aM<|qa 24 aL<|qa 20 aF<|qb 19 aH<|qa 16 aG<|qa 10 aD<|qa 7 aB<|qb 6 aC<|q0) [] [] trivial
  have aO:=idxl (H:=[]) (f:=false) (c:=kD) aK (lP _)
  have aP:=qF (cf:=evF PP T n) (fl:=0) (H:=[]) aJ.Name
  rcases cn h with ⟨aU,aN,h⟩ | ⟨aU,aN,h⟩
  ·obtain rfl:=si h
   exact kX (some [true,false,false,true]) false (wQ aA) (qa 37 aN<|qb 36 aP<|qa 33 aO<|qa 28 aI<|qb 27 aM<|qa 24 aL<|qa 20 aF<|qb 19 aH<|qa 16 aG<|qa 10 aD<|qa 7 aB<|qb 6 aC<|q0) [] [] trivial
  exact nx_q (aO2 aA (IntKind.i64.wrap (aE + 1))) (qa 37 aN<|qb 36 aP<|qa 33 aO<|qa 28 aI<|qb 27 aM<|qa 24 aL<|qa 20 aF<|qb 19 aH<|qa 16 aG<|qa 10 aD<|qa 7 aB<|qb 6 aC<|q0) [] [] trivial (aE6 n aA m (IntKind.i64.wrap (aE + 1)) r h)
def f4 : Nat→(List GEdit)→Option Bool
 | 0,_=>none
 | n + 1,aA=>(bnd2 (aGp n aA n 0) (fun aB=>(some false)) (fun aC=>(cnd (decide (((aA.length : Nat) : Int) ≤ 6)) (some true) (some false))))
theorem aYp (n : Nat) (aA : (List GEdit)) (r : Bool) (h : f4 n aA=some r) : pv PP T n 4 [(.sl false (List.map kD aA))]=some (bv r):=by
 cases n with
 | zero=>cases h
 | succ n =>
  rw [f4] at h
  have aC : kV false 0 0 []:=trivial
  rcases kQ h with ⟨aH,aD,h⟩ | ⟨aI,aD,h⟩
  ·have aB:=aE6 n aA n 0 _ aD
   obtain rfl:=si h
   exact pv_q F4 (qp aB<|qp aC<|q0) [(.ret,wQ aA)] []
  have aB:=aE6 n aA n 0 _ aD
  have aF:=kP (P:=PP) (cf:=evF PP T n) (fl:=0) (H:=[]) (f:=false) (c:=kD) (l:=aA)
  rcases cn h with ⟨aG,aE,h⟩ | ⟨aG,aE,h⟩
  ·obtain rfl:=si h
   exact pv_q F4 (qa 41 aE<|qb 40 aF<|qp aB<|qp aC<|q0) [((.exit 0),wP aA)] []
  obtain rfl:=si h
  exact pv_q F4 (qa 41 aE<|qb 40 aF<|qp aB<|qp aC<|q0) [((.exit 0),wP aA)] []
def aO6 (aA : (List GTxn)) (aB : Int) : St:=⟨[(.sl false (List.map kF aA)),U,U,(iv aB),U,U,U,U,U,U,U,U,U,U,U,U,U,U,U,U,U,U,U,U,U,U,U,U,U],[]⟩
def zP (aA : (List GTxn)) : St:=⟨[U,U,bf,U,U,U,U,U,U,U,U,U,U,U,U,U,U,U,U,U,U,U,U,U,U,U,U,U,U],[]⟩
def aE8 (aA : (List GTxn)) : St:=⟨[U,U,U,U,U,U,U,U,U,U,U,U,U,U,U,U,U,U,U,U,U,U,U,U,U,U,U,U,U],[]⟩
def aGs (n : Nat) (aA : (List GTxn)) : Nat→Int→Option (Unit ⊕ Unit)
 | 0,_=>none
 | m + 1,aB=>(cnd (decide (aB < ((aA.length : Nat) : Int))) (bnd (idx aA aB) fun aC=>(cnd (decide (((aC.Source.size : Nat) : Int) > 100)) (some (Sum.inl ())) (bnd (f4 n aC.Edits) fun aD=>(cnd (aD) (aGs n aA m (IntKind.i64.wrap (aB + 1))) (some (Sum.inl ())))))) (some (Sum.inr ())))
theorem aE7 (n : Nat) (aA : (List GTxn)) : ∀ (m : Nat) (aB : Int) (r : (Unit ⊕ Unit)),aGs n aA m aB=some r→lT [] [false,false,true] false 0 0 (kW (kY (some [true,false,false,true]) false 0 0) (evC PP (evF PP T n) n 0 L3_0) m (aO6 aA aB))=(match r with | .inl r=>some (.ret,zP aA) | .inr r=>some ((.exit 0),aE8 aA))
 | 0,_,_,h=>by cases h
 | m + 1,aB,r,h=>by
  rw [aGs] at h
  have aD:=kP (P:=PP) (cf:=evF PP T n) (fl:=0) (H:=[]) (f:=false) (c:=kF) (l:=aA)
  rcases cn h with ⟨aM,aC,h⟩ | ⟨aM,aC,h⟩
  rotate_left
  ·obtain rfl:=si h
   exact kX (some [true,false,false,true]) false (aE8 aA) (qa 10 aC<|qb 9 aD<|q0) [] [] trivial
  obtain ⟨aF,aJ,h⟩:=kE h
  have aG:=idxl (H:=[]) (f:=false) (c:=kF) aJ (kS _)
  have aH:=qF (cf:=evF PP T n) (fl:=0) (H:=[]) aF.Source
  rcases cn h with ⟨aN,aE,h⟩ | ⟨aN,aE,h⟩
  ·obtain rfl:=si h
   exact kX (some [true,false,false,true]) false (zP aA) (qa 19 aE<|qb 18 aH<|qa 15 aG<|qa 10 aC<|qb 9 aD<|q0) [] [] trivial
  have aK:=idxl (H:=[]) (f:=false) (c:=kF) aJ (kS _)
  obtain ⟨aR,aL,h⟩:=kE h
  rcases cn h with ⟨aI,aO,h⟩ | ⟨aI,aO,h⟩
  rotate_left
  ·have aP:=by have q:=aYp n aF.Edits _ aL; rw [aI] at q; exact q
   obtain rfl:=si h
   exact kX (some [true,false,false,true]) false (zP aA) (qa 26 aP<|qa 23 aK<|qa 19 aE<|qb 18 aH<|qa 15 aG<|qa 10 aC<|qb 9 aD<|q0) [] [] trivial
  have aQ:=by have q:=aYp n aF.Edits _ aL; rw [aI] at q; exact q
  exact nx_q (aO6 aA (IntKind.i64.wrap (aB + 1))) (qa 26 aQ<|qa 23 aK<|qa 19 aE<|qb 18 aH<|qa 15 aG<|qa 10 aC<|qb 9 aD<|q0) [] [] trivial (aE7 n aA m (IntKind.i64.wrap (aB + 1)) r h)
def f3 : Nat→(List GTxn)→Option Bool
 | 0,_=>none
 | n + 1,aA=>(cnd (decide (((aA.length : Nat) : Int) > 14)) (some false) (bnd2 (aGs n aA n 0) (fun aB=>(some false)) (fun aC=>(some true))))
theorem aRe (n : Nat) (aA : (List GTxn)) (r : Bool) (h : f3 n aA=some r) : pv PP T n 3 [(.sl false (List.map kF aA))]=some (bv r):=by
 cases n with
 | zero=>cases h
 | succ n =>
  rw [f3] at h
  have aC:=kP (P:=PP) (cf:=evF PP T n) (fl:=0) (H:=[]) (f:=false) (c:=kF) (l:=aA)
  rcases cn h with ⟨aG,aB,h⟩ | ⟨aG,aB,h⟩
  ·obtain rfl:=si h
   exact pv_q F3 (qa 6 aB<|qb 5 aC<|q0) [] []
  have aF : kV false 0 0 []:=trivial
  rcases kQ h with ⟨aH,aD,h⟩ | ⟨aI,aD,h⟩
  ·have aE:=aE7 n aA n 0 _ aD
   obtain rfl:=si h
   exact pv_q F3 (qp aE<|qp aF<|qa 6 aB<|qb 5 aC<|q0) [(.ret,zP aA)] []
  have aE:=aE7 n aA n 0 _ aD
  obtain rfl:=si h
  exact pv_q F3 (qp aE<|qp aF<|qa 6 aB<|qb 5 aC<|q0) [((.exit 0),aE8 aA)] []
def f8 : Nat→Int→Option (GOffice × Int)
 | 0,_=>none
 | n + 1,aA=>(cnd (decide (aA < 1)) (some ((GOffice.mk 0 []),2)) (cnd (decide (aA > 8)) (some ((GOffice.mk 0 []),2)) (some ((GOffice.mk aA []),0))))
def zN (aA : Int) (aB : Int) : St:=⟨[U,U,U,(.lit (.int .i32 (IntKind.i32.wrap aA))),U,U,U,U,U,U,U,U,U,U,(.agg [(.lit (.int .i32 32)),(.lit (.int .i32 32)),(iv 0),(.lit (.int .i32 39)),(.lit (.int .i32 41)),(iv 0),(.lit (.int .i32 45)),(.lit (.int .i32 46)),(iv 0),(.lit (.int .i32 48)),(.lit (.int .i32 57)),(iv 0),(.lit (.int .i32 65)),(.lit (.int .i32 90)),(iv 1),(.lit (.int .i32 97)),(.lit (.int .i32 122)),(iv 1),(.lit (.int .i32 192)),(.lit (.int .i32 214)),(iv 1),(.lit (.int .i32 216)),(.lit (.int .i32 246)),(iv 1),(.lit (.int .i32 248)),(.lit (.int .i32 591)),(iv 1),(.lit (.int .i32 880)),(.lit (.int .i32 1023)),(iv 2),(.lit (.int .i32 1024)),(.lit (.int .i32 1279)),(iv 3),(.lit (.int .i32 1488)),(.lit (.int .i32 1514)),(iv 4),(.lit (.int .i32 19968)),(.lit (.int .i32 40959)),(iv 5)]),(iv aB),U,U,U,U,U,U,U,U,U,U,U,U,U,U,U],[]⟩
theorem aJ3 (aA : Int) (aB : Int) : kV true 0 0 (zN aA aB).heap:=(by exact rfl)
def aBb (aE : Int) (aA : Int) (aB : Int) (aC : Int) (aD : Int) : St:=⟨[U,U,(iv aD),U,U,U,U,U,U,U,U,U,U,U,U,U,U,U,U,U,U,U,U,U,U,U,U,U,U,U,U],[(.blk 3 [[(.lit (.int .i32 aA)),(.lit (.int .i32 aB)),(iv aC)]])]⟩
def aBa (aA : Int) : St:=⟨[U,U,U,U,U,U,U,U,U,U,U,U,U,U,U,U,U,U,U,U,U,U,U,U,U,U,U,U,U,U,U],[]⟩
def wG (n : Nat) (aB : Int) : Nat→Int→Option ((Int × Int × Int × Int) ⊕ Unit)
 | 0,_=>none
 | m + 1,aC=>(cnd (decide (aC < 13)) (bnd (idx tab0 aC) fun aA=>(cnd (decide (aA.first ≤ (IntKind.i32.wrap aB))) (cnd (decide ((IntKind.i32.wrap aB) ≤ aA.last)) (some (Sum.inl (aA.first,aA.last,aA.script,aA.script))) (wG n aB m (IntKind.i64.wrap (aC + 1)))) (wG n aB m (IntKind.i64.wrap (aC + 1))))) (some (Sum.inr ())))
theorem wF (n : Nat) (aA : Int) : ∀ (m : Nat) (aB : Int) (r : ((Int × Int × Int × Int) ⊕ Unit)),wG n aA m aB=some r→lT [] [false,false,true] true 0 0 (kW (kY (some lv5) true 0 0) (evC PP (evF PP T n) n 0 bBh) m (zN aA aB))=(match r with | .inl r=>some (.ret,aBb aA r.1 r.2.1 r.2.2.1 r.2.2.2) | .inr r=>some ((.exit 0),aBa aA))
 | 0,_,_,h=>by cases h
 | m + 1,aB,r,h=>by
  rw [wG] at h
  rcases cn h with ⟨aH,aC,h⟩ | ⟨aH,aC,h⟩
  rotate_left
  ·obtain rfl:=si h
   exact kX (some lv5) true (aBa aA) (qa 16 aC<|q0) [] [] (by exact rfl)
  obtain ⟨aD,aI,h⟩:=kE h
  have aF:=aVi (P:=PP) (cf:=evF PP T n) (fl:=0) (H:=[]) (c:=aPr) (n:=13) aI aI6 rfl [(.lit (.int .i32 32)),(.lit (.int .i32 32)),(iv 0),(.lit (.int .i32 39)),(.lit (.int .i32 41)),(iv 0),(.lit (.int .i32 45)),(.lit (.int .i32 46)),(iv 0),(.lit (.int .i32 48)),(.lit (.int .i32 57)),(iv 0),(.lit (.int .i32 65)),(.lit (.int .i32 90)),(iv 1),(.lit (.int .i32 97)),(.lit (.int .i32 122)),(iv 1),(.lit (.int .i32 192)),(.lit (.int .i32 214)),(iv 1),(.lit (.int .i32 216)),(.lit (.int .i32 246)),(iv 1),(.lit (.int .i32 248)),(.lit (.int .i32 591)),(iv 1),(.lit (.int .i32 880)),(.lit (.int .i32 1023)),(iv 2),(.lit (.int .i32 1024)),(.lit (.int .i32 1279)),(iv 3),(.lit (.int .i32 1488)),(.lit (.int .i32 1514)),(iv 4),(.lit (.int .i32 19968)),(.lit (.int .i32 40959)),(iv 5)] rfl
  rcases cn h with ⟨aJ,aE,h⟩ | ⟨aJ,aE,h⟩
  rotate_left
  ·exact nx_q (zN aA (IntKind.i64.wrap (aB + 1))) (qa 21 aE<|qb 17 aF<|qa 16 aC<|q0) [] [none] (aJ3 _ _) (wF n aA m (IntKind.i64.wrap (aB + 1)) r h)
  rcases cn h with ⟨aK,aG,h⟩ | ⟨aK,aG,h⟩
  ·obtain rfl:=si h
   exact kX (some lv5) true (aBb aA aD.first aD.last aD.script aD.script) (qa 26 aG<|qa 21 aE<|qb 17 aF<|qa 16 aC<|q0) [] [none] trivial
  exact nx_q (zN aA (IntKind.i64.wrap (aB + 1))) (qa 26 aG<|qa 21 aE<|qb 17 aF<|qa 16 aC<|q0) [] [none] (aJ3 _ _) (wF n aA m (IntKind.i64.wrap (aB + 1)) r h)
def f87 : Nat→Int→Option Int
 | 0,_=>none
 | n + 1,aA=>(cnd (decide (aA < 0)) (some (-1)) (cnd (decide (aA > 1114111)) (some (-1)) (bnd2 (wG n aA n 0) (fun aB=>(some aB.2.2.2)) (fun aC=>(some (-1))))))
theorem aSn (n : Nat) (aA : Int) (r : Int) (h : f87 n aA=some r) : pv PP T n 87 [(iv aA)]=some (iv r):=by
 cases n with
 | zero=>cases h
 | succ n =>
  rw [f87] at h
  rcases cn h with ⟨aH,aB,h⟩ | ⟨aH,aB,h⟩
  ·obtain rfl:=si h
   exact pv_q F87 (qa 7 aB<|q0) [] []
  rcases cn h with ⟨aI,aC,h⟩ | ⟨aI,aC,h⟩
  ·obtain rfl:=si h
   exact pv_q F87 (qa 10 aC<|qa 7 aB<|q0) [] []
  have aG : kV true 0 0 []:=(by exact rfl)
  rcases kQ h with ⟨aD,aE,h⟩ | ⟨aJ,aE,h⟩
  rotate_left
  ·have aF:=wF n aA n 0 _ aE
   obtain rfl:=si h
   exact pv_q F87 (qp aF<|qp aG<|qa 10 aC<|qa 7 aB<|q0) [((.exit 0),aBa aA)] []
  have aF:=wF n aA n 0 _ aE
  obtain rfl:=si h
  exact pv_q F87 (qp aF<|qp aG<|qa 10 aC<|qa 7 aB<|q0) [(.ret,aBb aA aD.1 aD.2.1 aD.2.2.1 aD.2.2.2)] []
def aE4 (aB : ByteArray) (aA : (List Int)) (aC : Nat) : St:=⟨[U,U,(.ms 0 aA.length 0 aA.length),U,U,U,U,(.it 1),U,U,U,U,U,U,U,U,U,U,U,U,U],[(.blk 1 (List.map kL aA)),(.raw (.stringIter aB aC))]⟩
theorem aQ4 (aA : ByteArray) (aB : (List Int)) (aC : Nat) : kV true 0 2 (aE4 aA aB aC).heap:=(by exact (clo (mE (vS 2)) (clo rfl rfl)))
def aBe (aA : ByteArray) (aB : (List Int)) (aC : Nat) : St:=⟨[U,U,(.ms 2 0 0 0),(iv 4),U,U,U,U,U,U,U,U,U,U,U,U,U,U,U,U,U],[(.blk 1 (List.map kL aB)),(.raw (.stringIter aA aC)),(.blk 1 (List.map kL []))]⟩
def aBd (aB : ByteArray) (aA : (List Int)) (aC : Nat) : St:=⟨[U,U,(.ms 0 aA.length 0 aA.length),U,U,U,U,U,U,U,U,U,U,U,U,U,U,U,U,U,U],[(.blk 1 (List.map kL aA)),(.raw (.stringIter aB aC))]⟩
abbrev hp5 (l533 : (List Int)) (a520 : ByteArray) (k534 : Nat) : Heap:=[(.blk 1 (List.map kL l533)),(.raw (.stringIter a520 k534))]
abbrev hp6 (l533 : (List Int)) (a520 : ByteArray) (k534 : Nat) : Heap:=[(.blk 1 (List.map kL l533)),(.raw (.stringIter a520 (k534 + (Utf8.decode a520 k534).2)))]
def aDp (n : Nat) (aB : ByteArray) : Nat→(List Int)→Nat→Option (((List Int) × Nat) ⊕ ((List Int) × Nat))
 | 0,_,_=>none
 | m + 1,aC,aA=>(cnd (decide (aA < aB.size)) (bnd (f87 n (IntKind.i64.wrap (((Utf8.decode aB aA).1 : Nat) : Int))) fun aD=>(cnd (decide (aD < 0)) (some (Sum.inl (aC,(aA + (Utf8.decode aB aA).2)))) (bnd (app aC [(IntKind.i64.wrap (((Utf8.decode aB aA).1 : Nat) : Int))]) fun aE=>(aDp n aB m aE (aA + (Utf8.decode aB aA).2))))) (some (Sum.inr (aC,aA))))
theorem aBc (n : Nat) (aA : ByteArray) : ∀ (m : Nat) (aC : (List Int)) (aB : Nat) (r : (((List Int) × Nat) ⊕ ((List Int) × Nat))),aDp n aA m aC aB=some r→lT [false,false,true] [false,false,true,true] true 0 2 (kW (kY (some lv6) true 0 2) (evC PP (evF PP T n) n 0 bBi) m (aE4 aA aC aB))=(match r with | .inl r=>some (.ret,aBe aA r.1 r.2) | .inr r=>some ((.exit 0),aBd aA r.1 r.2))
 | 0,_,_,_,h=>by cases h
 | m + 1,aC,aB,r,h=>by
  rw [aDp] at h
  rcases cn h with ⟨aD,aI,h⟩ | ⟨aD,aI,h⟩
  rotate_left
  ·have aJ:=aWu (P:=PP) (cf:=evF PP T n) (fl:=0) (H:=(hp5 aC aA aB)) (id:=1) rfl (by omega) aD
   obtain rfl:=si h
   exact kX (some lv6) true (aBd aA aC aB) (qb 8 aJ<|q0) [] [] (by exact (clo (mE (vS 2)) (clo rfl rfl)))
  have aF:=aWr (P:=PP) (cf:=evF PP T n) (fl:=0) (H:=(hp5 aC aA aB)) (id:=1) rfl (by omega) aD
  obtain ⟨aO,aK,h⟩:=kE h
  have aG:=aSn n (IntKind.i64.wrap (((Utf8.decode aA aB).1 : Nat) : Int)) _ aK
  rcases cn h with ⟨aL,aE,h⟩ | ⟨aL,aE,h⟩
  ·obtain rfl:=si h
   exact kX (some lv6) true (aBe aA aC (aB + (Utf8.decode aA aB).2)) (qa 14 aE<|qa 13 aG<|qc 8 aF<|q0) [] [] trivial
  obtain ⟨aH,aM,h⟩:=kE h
  have aN:=xM (fl:=0) (H:=(hp6 aC aA aB)) (id:=0) (s:=1) (bytes:=8) (c:=kL) (l:=aC) aM rfl lS (by omega) (by omega) (by omega)
  exact nx_q (aE4 aA aH (aB + (Utf8.decode aA aB).2)) (qc 19 aN<|qa 14 aE<|qa 13 aG<|qc 8 aF<|q0) [] [] (aQ4 _ _ _) (aBc n aA m aH (aB + (Utf8.decode aA aB).2) r h)
abbrev hp7 (v567 : ((List Int) × Nat)) (a520 : ByteArray) : Heap:=[(.blk 1 (List.map kL v567.1)),(.raw (.stringIter a520 v567.2))]
def f85 : Nat→ByteArray→Option ((List Int) × Int)
 | 0,_=>none
 | n + 1,aA=>(bnd2 (aDp n aA n [] 0) (fun aC=>(some ([],4))) (fun aB=>(some (aB.1,0))))
theorem aXl (n : Nat) (aA : ByteArray) (r : ((List Int) × Int)) (h : f85 n aA=some r) : pv PP T n 85 [(sv aA)]=some (.tup [(.sl false (List.map kL r.1)),(iv r.2)]):=by
 cases n with
 | zero=>cases h
 | succ n =>
  rw [f85] at h
  have aE : kV true 0 2 [(.blk 1 (List.map kL [])),(.raw (.stringIter aA 0))]:=(by exact (clo (mE (vS 2)) (clo rfl rfl)))
  rcases kQ h with ⟨aF,aC,h⟩ | ⟨aB,aC,h⟩
  ·have aD:=aBc n aA n [] 0 _ aC
   obtain rfl:=si h
   exact pv_q F85 (qp aD<|qp aE<|q0) [(.ret,aBe aA aF.1 aF.2)] []
  have aD:=aBc n aA n [] 0 _ aC
  obtain rfl:=si h
  refine uO (kT F85 (qp aD<|qp aE<|q0) [((.exit 0),aBd aA aB.1 aB.2)] [] (r:=(.tup [(.ms 0 aB.1.length 0 aB.1.length),(iv 0)])) (H':=(hp7 aB aA))) ?_
  show (AV.tup [(mV (hp7 aB aA) 0 (.ms 0 aB.1.length 0 aB.1.length)),(mV (hp7 aB aA) 0 (iv 0))])=_
  rw [oJ (H:=(hp7 aB aA)) (id:=0) (s:=1) (c:=kL) (l:=aB.1) rfl (uJ _ _ _)]
  first | done | rfl
def aKe (aA : ((List Int) × Int)) (aB : Int) : St:=⟨[U,U,(.sl false (List.map kL aA.1)),U,U,U,U,U,U,U,U,U,U,U,U,U,U,U,U,U,U,U,U,U,U,U,U,U,U,U,U,U,U,U,(.sl false (List.map kL aA.1)),(iv ((aA.1.length : Nat) : Int)),(iv aB),U,U,U,U,U,U,U,U],[]⟩
def aBu (aA : ((List Int) × Int)) : St:=⟨[U,U,(.sl false (List.map kL aA.1)),(iv 0),U,U,U,U,U,U,U,U,U,U,U,U,U,U,U,U,U,U,U,U,U,U,U,U,U,U,U,U,U,U,U,U,U,U,U,U,U,U,U,U,U],[]⟩
def aBt (aA : ((List Int) × Int)) : St:=⟨[U,U,U,U,U,U,U,U,U,U,U,U,U,U,U,U,U,U,U,U,U,U,U,U,U,U,U,U,U,U,U,U,U,U,U,U,U,U,U,U,U,U,U,U,U],[]⟩
def yU (n : Nat) (aA : ((List Int) × Int)) : Nat→Int→Option (Unit ⊕ Unit)
 | 0,_=>none
 | m + 1,aB=>(cnd (decide (aB < ((aA.1.length : Nat) : Int))) (bnd (idx aA.1 aB) fun aC=>(bnd (f87 n aC) fun aD=>(cnd (aD != 0) (some (Sum.inl ())) (yU n aA m (IntKind.i64.wrap (aB + 1)))))) (some (Sum.inr ())))
theorem aBs (n : Nat) (aA : ((List Int) × Int)) : ∀ (m : Nat) (aB : Int) (r : (Unit ⊕ Unit)),yU n aA m aB=some r→lT [] [false,false,true,true] false 0 0 (kW (kY (some lv7) false 0 0) (evC PP (evF PP T n) n 0 bBr) m (aKe aA aB))=(match r with | .inl r=>some (.ret,aBu aA) | .inr r=>some ((.exit 0),aBt aA))
 | 0,_,_,h=>by cases h
 | m + 1,aB,r,h=>by
  rw [yU] at h
  rcases cn h with ⟨aG,aC,h⟩ | ⟨aG,aC,h⟩
  rotate_left
  ·obtain rfl:=si h
   exact kX (some lv7) false (aBt aA) (qa 37 aC<|q0) [] [] trivial
  obtain ⟨aH,aI,h⟩:=kE h
  have aE:=idxl (H:=[]) (f:=false) (c:=kL) aI (lS _)
  obtain ⟨aL,aJ,h⟩:=kE h
  have aF:=aSn n aH _ aJ
  rcases cn h with ⟨aK,aD,h⟩ | ⟨aK,aD,h⟩
  ·obtain rfl:=si h
   exact kX (some lv7) false (aBu aA) (qa 42 aD<|qa 41 aF<|qa 38 aE<|qa 37 aC<|q0) [] [] trivial
  exact nx_q (aKe aA (IntKind.i64.wrap (aB + 1))) (qa 42 aD<|qa 41 aF<|qa 38 aE<|qa 37 aC<|q0) [] [] trivial (aBs n aA m (IntKind.i64.wrap (aB + 1)) r h)
def f65 : Nat→ByteArray→Option ((List Int) × Int)
 | 0,_=>none
 | n + 1,aA=>(cnd (decide (aA=(⟨#[]⟩ : ByteArray))) (some ([],14)) (cnd (decide (((aA.size : Nat) : Int) > 40)) (some ([],3)) (bnd (f85 n aA) fun aB=>(cnd (aB.2 != 0) (some ([],aB.2)) (bnd (sat aA 0) fun aC=>(cnd (aC == 32) (some ([],14)) (bnd (sat aA (IntKind.i64.wrap (((aA.size : Nat) : Int) - 1))) fun aD=>(cnd (aD == 32) (some ([],14)) (bnd (f86 n aA ⟨#[32,32]⟩) fun aE=>(cnd (aE) (some ([],14)) (bnd2 (yU n aB n 0) (fun aF=>(some (aB.1,0))) (fun aG=>(some ([],14))))))))))))))
theorem aYb (n : Nat) (aB : ByteArray) (r : ((List Int) × Int)) (h : f65 n aB=some r) : pv PP T n 65 [(sv aB)]=some (.tup [(.sl false (List.map kL r.1)),(iv r.2)]):=by
 cases n with
 | zero=>cases h
 | succ n =>
  rw [f65] at h
  rcases cn h with ⟨aM,aU,h⟩ | ⟨aM,aU,h⟩
  ·have aV:=lL (P:=PP) (cf:=evF PP T n) (fl:=0) (H:=[]) (t:=9) aM
   obtain rfl:=si h
   exact pv_q F65 (qb 7 aV<|q0) [] []
  have aC:=lL (P:=PP) (cf:=evF PP T n) (fl:=0) (H:=[]) (t:=9) aM
  have aD:=qF (cf:=evF PP T n) (fl:=0) (H:=[]) aB
  rcases cn h with ⟨aW,aA,h⟩ | ⟨aW,aA,h⟩
  ·obtain rfl:=si h
   exact pv_q F65 (qa 10 aA<|qb 9 aD<|qb 7 aC<|q0) [] []
  obtain ⟨aH,aX,h⟩:=kE h
  have aF:=aXl n aB _ aX
  rcases cn h with ⟨aY,aE,h⟩ | ⟨aY,aE,h⟩
  ·obtain rfl:=si h
   exact pv_q F65 (qa 17 aE<|qa 13 aF<|qa 10 aA<|qb 9 aD<|qb 7 aC<|q0) [] []
  obtain ⟨af,aZ,h⟩:=kE h
  have aI:=oV (P:=PP) (cf:=evF PP T n) (fl:=0) (H:=[]) (t:=9) (by kernel_rfl) aZ
  rcases cn h with ⟨aa,aG,h⟩ | ⟨aa,aG,h⟩
  ·obtain rfl:=si h
   exact pv_q F65 (qa 21 aG<|qb 20 aI<|qa 17 aE<|qa 13 aF<|qa 10 aA<|qb 9 aD<|qb 7 aC<|q0) [] []
  have aK:=qF (cf:=evF PP T n) (fl:=0) (H:=[]) aB
  obtain ⟨ag,ab,h⟩:=kE h
  have aL:=oV (P:=PP) (cf:=evF PP T n) (fl:=0) (H:=[]) (t:=9) (by kernel_rfl) ab
  rcases cn h with ⟨ac,aJ,h⟩ | ⟨ac,aJ,h⟩
  ·obtain rfl:=si h
   exact pv_q F65 (qa 28 aJ<|qb 27 aL<|qb 25 aK<|qa 21 aG<|qb 20 aI<|qa 17 aE<|qa 13 aF<|qa 10 aA<|qb 9 aD<|qb 7 aC<|q0) [] []
  obtain ⟨ah,aQ,h⟩:=kE h
  rcases cn h with ⟨aN,ad,h⟩ | ⟨aN,ad,h⟩
  ·have ae:=by have q:=aSp n aB ⟨#[32,32]⟩ _ aQ; rw [aN] at q; exact q
   obtain rfl:=si h
   exact pv_q F65 (qa 32 ae<|qa 28 aJ<|qb 27 aL<|qb 25 aK<|qa 21 aG<|qb 20 aI<|qa 17 aE<|qa 13 aF<|qa 10 aA<|qb 9 aD<|qb 7 aC<|q0) [] []
  have aR:=by have q:=aSp n aB ⟨#[32,32]⟩ _ aQ; rw [aN] at q; exact q
  have aS:=kP (P:=PP) (cf:=evF PP T n) (fl:=0) (H:=[]) (f:=false) (c:=kL) (l:=aH.1)
  have aT : kV false 0 0 []:=trivial
  rcases kQ h with ⟨ai,aO,h⟩ | ⟨aj,aO,h⟩
  ·have aP:=aBs n aH n 0 _ aO
   obtain rfl:=si h
   exact pv_q F65 (qp aP<|qp aT<|qb 35 aS<|qa 32 aR<|qa 28 aJ<|qb 27 aL<|qb 25 aK<|qa 21 aG<|qb 20 aI<|qa 17 aE<|qa 13 aF<|qa 10 aA<|qb 9 aD<|qb 7 aC<|q0) [(.ret,aBu aH)] []
  have aP:=aBs n aH n 0 _ aO
  obtain rfl:=si h
  exact pv_q F65 (qp aP<|qp aT<|qb 35 aS<|qa 32 aR<|qa 28 aJ<|qb 27 aL<|qb 25 aK<|qa 21 aG<|qb 20 aI<|qa 17 aE<|qa 13 aF<|qa 10 aA<|qb 9 aD<|qb 7 aC<|q0) [((.exit 0),aBt aH)] []
def f40 : Nat→ByteArray→Option Int
 | 0,_=>none
 | n + 1,aA=>(bnd (f65 n aA) fun aB=>(some aB.2))
theorem aO5 (n : Nat) (aA : ByteArray) (r : Int) (h : f40 n aA=some r) : pv PP T n 40 [(sv aA)]=some (iv r):=by
 cases n with
 | zero=>cases h
 | succ n =>
  rw [f40] at h
  obtain ⟨aD,aB,h⟩:=kE h
  have aC:=aYb n aA _ aB
  obtain rfl:=si h
  exact pv_q F40 (qa 5 aC<|q0) [] []
def f66 : Nat→Int→Option Int
 | 0,_=>none
 | n + 1,aA=>(cnd (aA == 1) (some 1) (cnd (aA == 2) (some 1) (cnd (aA == 8) (some 1) (cnd (aA == 3) (some 2) (cnd (aA == 4) (some 2) (cnd (aA == 5) (some 3) (cnd (aA == 6) (some 3) (cnd (aA == 7) (some 3) (some 0)))))))))
theorem aYa (n : Nat) (aI : Int) (r : Int) (h : f66 n aI=some r) : pv PP T n 66 [(iv aI)]=some (iv r):=by
 cases n with
 | zero=>cases h
 | succ n =>
  rw [f66] at h
  rcases cn h with ⟨aJ,aA,h⟩ | ⟨aJ,aA,h⟩
  ·obtain rfl:=si h
   exact pv_q F66 (qa 5 aA<|q0) [] []
  rcases cn h with ⟨aK,aB,h⟩ | ⟨aK,aB,h⟩
  ·obtain rfl:=si h
   exact pv_q F66 (qa 7 aB<|qa 5 aA<|q0) [] []
  rcases cn h with ⟨aL,aC,h⟩ | ⟨aL,aC,h⟩
  ·obtain rfl:=si h
   exact pv_q F66 (qa 9 aC<|qa 7 aB<|qa 5 aA<|q0) [] []
  rcases cn h with ⟨aM,aD,h⟩ | ⟨aM,aD,h⟩
  ·obtain rfl:=si h
   exact pv_q F66 (qa 11 aD<|qa 9 aC<|qa 7 aB<|qa 5 aA<|q0) [] []
  rcases cn h with ⟨aN,aE,h⟩ | ⟨aN,aE,h⟩
  ·obtain rfl:=si h
   exact pv_q F66 (qa 13 aE<|qa 11 aD<|qa 9 aC<|qa 7 aB<|qa 5 aA<|q0) [] []
  rcases cn h with ⟨aO,aF,h⟩ | ⟨aO,aF,h⟩
  ·obtain rfl:=si h
   exact pv_q F66 (qa 15 aF<|qa 13 aE<|qa 11 aD<|qa 9 aC<|qa 7 aB<|qa 5 aA<|q0) [] []
  rcases cn h with ⟨aP,aG,h⟩ | ⟨aP,aG,h⟩
  ·obtain rfl:=si h
   exact pv_q F66 (qa 17 aG<|qa 15 aF<|qa 13 aE<|qa 11 aD<|qa 9 aC<|qa 7 aB<|qa 5 aA<|q0) [] []
  rcases cn h with ⟨aQ,aH,h⟩ | ⟨aQ,aH,h⟩
  ·obtain rfl:=si h
   exact pv_q F66 (qa 19 aH<|qa 17 aG<|qa 15 aF<|qa 13 aE<|qa 11 aD<|qa 9 aC<|qa 7 aB<|qa 5 aA<|q0) [] []
  obtain rfl:=si h
  exact pv_q F66 (qa 19 aH<|qa 17 aG<|qa 15 aF<|qa 13 aE<|qa 11 aD<|qa 9 aC<|qa 7 aB<|qa 5 aA<|q0) [] []
abbrev hp8 (a672 : GEdit) : Heap:=[(.blk 10 [(kD (GEdit.mk a672.Kind a672.ID a672.A a672.B a672.C (GPoint.mk 0 0) a672.Via a672.Name a672.Parts))])]
abbrev hp9 (a672 : GEdit) : Heap:=[(.blk 10 [[(iv a672.Kind),(iv a672.ID),(iv 0),(iv 0),(iv 0),(iv a672.At.X),(iv a672.At.Y),(.lit nilS),(sv a672.Name),(.sl false (List.map kL a672.Parts))]])]
abbrev hp10 (a672 : GEdit) : Heap:=[(.blk 10 [[(iv a672.Kind),(iv a672.ID),(iv a672.A),(iv a672.B),(iv a672.C),(iv a672.At.X),(iv a672.At.Y),(.lit nilS),(sv a672.Name),(.sl false (List.map kL a672.Parts))]])]
abbrev hp11 (a672 : GEdit) : Heap:=[(.blk 10 [[(iv a672.Kind),(iv a672.ID),(iv 0),(iv 0),(iv a672.C),(iv a672.At.X),(iv a672.At.Y),(.sl false (List.map kI a672.Via)),(sv (⟨#[]⟩)),(.lit nilS)]])]
abbrev hp12 (a672 : GEdit) : Heap:=[(.blk 10 [(kD (GEdit.mk a672.Kind a672.ID a672.A a672.B a672.C a672.At a672.Via ⟨#[]⟩ a672.Parts))])]
abbrev hp13 (a672 : GEdit) : Heap:=[(.blk 10 [(kD (GEdit.mk a672.Kind a672.ID a672.A 0 a672.C a672.At a672.Via a672.Name a672.Parts))])]
abbrev hp14 (a672 : GEdit) : Heap:=[(.blk 10 [[(iv a672.Kind),(iv a672.ID),(iv a672.A),(iv a672.B),(iv a672.C),(iv a672.At.X),(iv a672.At.Y),(.sl false (List.map kI a672.Via)),(sv a672.Name),(.lit nilS)]])]
abbrev hp15 (a672 : GEdit) : Heap:=[(.blk 10 [(kD (GEdit.mk a672.Kind a672.ID 0 a672.B a672.C a672.At a672.Via a672.Name a672.Parts))])]
def f67 : Nat→GEdit→Option Bool
 | 0,_=>none
 | n + 1,aA=>(cnd (aA.Kind == 1) (cnd (aA.A != 0) (some true) (cnd (aA.B != 0) (some true) (cnd (aA.C != 0) (some true) (cnd (decide (((aA.Via.length : Nat) : Int) > 0)) (some true) (cnd (decide (aA.Name=(⟨#[]⟩ : ByteArray))) (cnd (decide (((aA.Parts.length : Nat) : Int) > 0)) (some true) (some false)) (some true)))))) (cnd (aA.Kind == 3) (cnd (aA.A != 0) (some true) (cnd (aA.B != 0) (some true) (cnd (aA.C != 0) (some true) (cnd (decide (((aA.Via.length : Nat) : Int) > 0)) (some true) (cnd (decide (aA.Name=(⟨#[]⟩ : ByteArray))) (cnd (decide (((aA.Parts.length : Nat) : Int) > 0)) (some true) (some false)) (some true)))))) (cnd (aA.Kind == 4) (cnd (decide (aA.At=(GPoint.mk 0 0))) (cnd (decide (aA.Name=(⟨#[]⟩ : ByteArray))) (cnd (decide (((aA.Parts.length : Nat) : Int) > 0)) (some true) (some false)) (some true)) (some true)) (cnd (aA.Kind == 6) (cnd (aA.A != 0) (some true) (cnd (aA.B != 0) (some true) (cnd (aA.C != 0) (some true) (cnd (decide (aA.At=(GPoint.mk 0 0))) (cnd (decide (aA.Name=(⟨#[]⟩ : ByteArray))) (cnd (decide (((aA.Parts.length : Nat) : Int) > 0)) (some true) (some false)) (some true)) (some true))))) (cnd (aA.Kind == 7) (cnd (aA.C != 0) (some true) (cnd (decide (aA.At=(GPoint.mk 0 0))) (cnd (decide (((aA.Via.length : Nat) : Int) > 0)) (some true) (some false)) (some true))) (cnd (aA.Kind == 9) (cnd (aA.A != 0) (some true) (cnd (aA.B != 0) (some true) (cnd (aA.C != 0) (some true) (cnd (decide (aA.At=(GPoint.mk 0 0))) (cnd (decide (((aA.Via.length : Nat) : Int) > 0)) (some true) (cnd (decide (((aA.Parts.length : Nat) : Int) > 0)) (some true) (some false))) (some true))))) (cnd (aA.Kind == 10) (cnd (aA.A != 0) (some true) (cnd (aA.C != 0) (some true) (cnd (decide (aA.At=(GPoint.mk 0 0))) (cnd (decide (((aA.Via.length : Nat) : Int) > 0)) (some true) (cnd (decide (aA.Name=(⟨#[]⟩ : ByteArray))) (cnd (decide (((aA.Parts.length : Nat) : Int) > 0)) (some true) (some false)) (some true))) (some true)))) (cnd (aA.Kind == 11) (cnd (aA.A != 0) (some true) (cnd (aA.B != 0) (some true) (cnd (aA.C != 0) (some true) (cnd (decide (aA.At=(GPoint.mk 0 0))) (cnd (decide (((aA.Via.length : Nat) : Int) > 0)) (some true) (cnd (decide (aA.Name=(⟨#[]⟩ : ByteArray))) (some false) (some true))) (some true))))) (cnd (aA.Kind == 12) (cnd (aA.B != 0) (some true) (cnd (aA.C != 0) (some true) (cnd (decide (aA.At=(GPoint.mk 0 0))) (cnd (decide (((aA.Via.length : Nat) : Int) > 0)) (some true) (cnd (decide (aA.Name=(⟨#[]⟩ : ByteArray))) (cnd (decide (((aA.Parts.length : Nat) : Int) > 0)) (some true) (some false)) (some true))) (some true)))) (cnd (aA.A != 0) (some true) (cnd (aA.B != 0) (some true) (cnd (aA.C != 0) (some true) (cnd (decide (aA.At=(GPoint.mk 0 0))) (cnd (decide (((aA.Via.length : Nat) : Int) > 0)) (some true) (cnd (decide (aA.Name=(⟨#[]⟩ : ByteArray))) (cnd (decide (((aA.Parts.length : Nat) : Int) > 0)) (some true) (some false)) (some true))) (some true))))))))))))))
theorem aKd (n : Nat) (aA : GEdit) (r : Bool) (h : f67 n aA=some r) : pv PP T n 67 [(.agg (kD aA))]=some (bv r):=by
 cases n with
 | zero=>cases h
 | succ n =>
  rw [f67] at h
  rcases cn h with ⟨bx,aB,h⟩ | ⟨bx,aB,h⟩
  ·rcases cn h with ⟨bz,aL,h⟩ | ⟨bz,aL,h⟩
   ·obtain rfl:=si h
    exact pv_q F67 (qa 39 aL<|qa 6 aB<|q0) [] [none]
   rcases cn h with ⟨cA,aT,h⟩ | ⟨cA,aT,h⟩
   ·obtain rfl:=si h
    exact pv_q F67 (qa 43 aT<|qa 39 aL<|qa 6 aB<|q0) [] [none]
   rcases cn h with ⟨cB,ab,h⟩ | ⟨cB,ab,h⟩
   ·obtain rfl:=si h
    exact pv_q F67 (qa 48 ab<|qa 43 aT<|qa 39 aL<|qa 6 aB<|q0) [] [none]
   have am:=kP (P:=PP) (cf:=evF PP T n) (fl:=0) (H:=(hp8 aA)) (f:=false) (c:=kI) (l:=aA.Via)
   rcases cn h with ⟨cC,ag,h⟩ | ⟨cC,ag,h⟩
   ·obtain rfl:=si h
    exact pv_q F67 (qa 60 ag<|qb 59 am<|qa 48 ab<|qa 43 aT<|qa 39 aL<|qa 6 aB<|q0) [] [none]
   rcases cn h with ⟨ay,cD,h⟩ | ⟨ay,cD,h⟩
   rotate_left
   ·have cE:=lF (P:=PP) (cf:=evF PP T n) (fl:=0) (H:=(hp8 aA)) (t:=9) ay
    obtain rfl:=si h
    exact pv_q F67 (qb 65 cE<|qa 60 ag<|qb 59 am<|qa 48 ab<|qa 43 aT<|qa 39 aL<|qa 6 aB<|q0) [] [none]
   have bd:=lF (P:=PP) (cf:=evF PP T n) (fl:=0) (H:=(hp8 aA)) (t:=9) ay
   have be:=kP (P:=PP) (cf:=evF PP T n) (fl:=0) (H:=(hp8 aA)) (f:=false) (c:=kL) (l:=aA.Parts)
   rcases cn h with ⟨cF,az,h⟩ | ⟨cF,az,h⟩
   ·obtain rfl:=si h
    exact pv_q F67 (qa 71 az<|qb 70 be<|qb 65 bd<|qa 60 ag<|qb 59 am<|qa 48 ab<|qa 43 aT<|qa 39 aL<|qa 6 aB<|q0) [] [none]
   obtain rfl:=si h
   exact pv_q F67 (qa 71 az<|qb 70 be<|qb 65 bd<|qa 60 ag<|qb 59 am<|qa 48 ab<|qa 43 aT<|qa 39 aL<|qa 6 aB<|q0) [] [none]
  rcases cn h with ⟨cG,aC,h⟩ | ⟨cG,aC,h⟩
  ·rcases cn h with ⟨cH,aM,h⟩ | ⟨cH,aM,h⟩
   ·obtain rfl:=si h
    exact pv_q F67 (qa 39 aM<|qa 7 aC<|qa 6 aB<|q0) [] [none]
   rcases cn h with ⟨cI,aU,h⟩ | ⟨cI,aU,h⟩
   ·obtain rfl:=si h
    exact pv_q F67 (qa 43 aU<|qa 39 aM<|qa 7 aC<|qa 6 aB<|q0) [] [none]
   rcases cn h with ⟨cJ,ac,h⟩ | ⟨cJ,ac,h⟩
   ·obtain rfl:=si h
    exact pv_q F67 (qa 48 ac<|qa 43 aU<|qa 39 aM<|qa 7 aC<|qa 6 aB<|q0) [] [none]
   have an:=kP (P:=PP) (cf:=evF PP T n) (fl:=0) (H:=(hp8 aA)) (f:=false) (c:=kI) (l:=aA.Via)
   rcases cn h with ⟨cK,ah,h⟩ | ⟨cK,ah,h⟩
   ·obtain rfl:=si h
    exact pv_q F67 (qa 60 ah<|qb 59 an<|qa 48 ac<|qa 43 aU<|qa 39 aM<|qa 7 aC<|qa 6 aB<|q0) [] [none]
   rcases cn h with ⟨bA,cL,h⟩ | ⟨bA,cL,h⟩
   rotate_left
   ·have cM:=lF (P:=PP) (cf:=evF PP T n) (fl:=0) (H:=(hp8 aA)) (t:=9) bA
    obtain rfl:=si h
    exact pv_q F67 (qb 65 cM<|qa 60 ah<|qb 59 an<|qa 48 ac<|qa 43 aU<|qa 39 aM<|qa 7 aC<|qa 6 aB<|q0) [] [none]
   have bg:=lF (P:=PP) (cf:=evF PP T n) (fl:=0) (H:=(hp8 aA)) (t:=9) bA
   have bh:=kP (P:=PP) (cf:=evF PP T n) (fl:=0) (H:=(hp8 aA)) (f:=false) (c:=kL) (l:=aA.Parts)
   rcases cn h with ⟨cN,bB,h⟩ | ⟨cN,bB,h⟩
   ·obtain rfl:=si h
    exact pv_q F67 (qa 71 bB<|qb 70 bh<|qb 65 bg<|qa 60 ah<|qb 59 an<|qa 48 ac<|qa 43 aU<|qa 39 aM<|qa 7 aC<|qa 6 aB<|q0) [] [none]
   obtain rfl:=si h
   exact pv_q F67 (qa 71 bB<|qb 70 bh<|qb 65 bg<|qa 60 ah<|qb 59 an<|qa 48 ac<|qa 43 aU<|qa 39 aM<|qa 7 aC<|qa 6 aB<|q0) [] [none]
  rcases cn h with ⟨cO,aD,h⟩ | ⟨cO,aD,h⟩
  ·rcases cn h with ⟨bC,cP,h⟩ | ⟨bC,cP,h⟩
   rotate_left
   ·have cQ:=kR (cf:=evF PP T n) (fl:=0) (H:=(hp9 aA)) (a:=aA.At) (b:=(GPoint.mk 0 0)) bC
    obtain rfl:=si h
    exact pv_q F67 (qb 54 cQ<|qa 11 aD<|qa 7 aC<|qa 6 aB<|q0) [] [none,none,none,none]
   have bD:=kR (cf:=evF PP T n) (fl:=0) (H:=(hp9 aA)) (a:=aA.At) (b:=(GPoint.mk 0 0)) bC
   rcases cn h with ⟨bE,cR,h⟩ | ⟨bE,cR,h⟩
   rotate_left
   ·have cS:=lF (P:=PP) (cf:=evF PP T n) (fl:=0) (H:=(hp9 aA)) (t:=9) bE
    obtain rfl:=si h
    exact pv_q F67 (qb 65 cS<|qb 54 bD<|qa 11 aD<|qa 7 aC<|qa 6 aB<|q0) [] [none,none,none,none]
   have bi:=lF (P:=PP) (cf:=evF PP T n) (fl:=0) (H:=(hp9 aA)) (t:=9) bE
   have bj:=kP (P:=PP) (cf:=evF PP T n) (fl:=0) (H:=(hp9 aA)) (f:=false) (c:=kL) (l:=aA.Parts)
   rcases cn h with ⟨cT,bF,h⟩ | ⟨cT,bF,h⟩
   ·obtain rfl:=si h
    exact pv_q F67 (qa 71 bF<|qb 70 bj<|qb 65 bi<|qb 54 bD<|qa 11 aD<|qa 7 aC<|qa 6 aB<|q0) [] [none,none,none,none]
   obtain rfl:=si h
   exact pv_q F67 (qa 71 bF<|qb 70 bj<|qb 65 bi<|qb 54 bD<|qa 11 aD<|qa 7 aC<|qa 6 aB<|q0) [] [none,none,none,none]
  rcases cn h with ⟨cU,aE,h⟩ | ⟨cU,aE,h⟩
  ·rcases cn h with ⟨cV,aN,h⟩ | ⟨cV,aN,h⟩
   ·obtain rfl:=si h
    exact pv_q F67 (qa 39 aN<|qa 17 aE<|qa 11 aD<|qa 7 aC<|qa 6 aB<|q0) [] [none]
   rcases cn h with ⟨cW,aV,h⟩ | ⟨cW,aV,h⟩
   ·obtain rfl:=si h
    exact pv_q F67 (qa 43 aV<|qa 39 aN<|qa 17 aE<|qa 11 aD<|qa 7 aC<|qa 6 aB<|q0) [] [none]
   rcases cn h with ⟨cX,ad,h⟩ | ⟨cX,ad,h⟩
   ·obtain rfl:=si h
    exact pv_q F67 (qa 48 ad<|qa 43 aV<|qa 39 aN<|qa 17 aE<|qa 11 aD<|qa 7 aC<|qa 6 aB<|q0) [] [none]
   rcases cn h with ⟨bG,cY,h⟩ | ⟨bG,cY,h⟩
   rotate_left
   ·have cZ:=kR (cf:=evF PP T n) (fl:=0) (H:=(hp10 aA)) (a:=aA.At) (b:=(GPoint.mk 0 0)) bG
    obtain rfl:=si h
    exact pv_q F67 (qb 54 cZ<|qa 48 ad<|qa 43 aV<|qa 39 aN<|qa 17 aE<|qa 11 aD<|qa 7 aC<|qa 6 aB<|q0) [] [none]
   have bH:=kR (cf:=evF PP T n) (fl:=0) (H:=(hp10 aA)) (a:=aA.At) (b:=(GPoint.mk 0 0)) bG
   rcases cn h with ⟨bI,ca,h⟩ | ⟨bI,ca,h⟩
   rotate_left
   ·have cb:=lF (P:=PP) (cf:=evF PP T n) (fl:=0) (H:=(hp10 aA)) (t:=9) bI
    obtain rfl:=si h
    exact pv_q F67 (qb 65 cb<|qb 54 bH<|qa 48 ad<|qa 43 aV<|qa 39 aN<|qa 17 aE<|qa 11 aD<|qa 7 aC<|qa 6 aB<|q0) [] [none]
   have bk:=lF (P:=PP) (cf:=evF PP T n) (fl:=0) (H:=(hp10 aA)) (t:=9) bI
   have bl:=kP (P:=PP) (cf:=evF PP T n) (fl:=0) (H:=(hp10 aA)) (f:=false) (c:=kL) (l:=aA.Parts)
   rcases cn h with ⟨cc,bJ,h⟩ | ⟨cc,bJ,h⟩
   ·obtain rfl:=si h
    exact pv_q F67 (qa 71 bJ<|qb 70 bl<|qb 65 bk<|qb 54 bH<|qa 48 ad<|qa 43 aV<|qa 39 aN<|qa 17 aE<|qa 11 aD<|qa 7 aC<|qa 6 aB<|q0) [] [none]
   obtain rfl:=si h
   exact pv_q F67 (qa 71 bJ<|qb 70 bl<|qb 65 bk<|qb 54 bH<|qa 48 ad<|qa 43 aV<|qa 39 aN<|qa 17 aE<|qa 11 aD<|qa 7 aC<|qa 6 aB<|q0) [] [none]
  rcases cn h with ⟨cd,aF,h⟩ | ⟨cd,aF,h⟩
  ·rcases cn h with ⟨ce,ai,h⟩ | ⟨ce,ai,h⟩
   ·obtain rfl:=si h
    exact pv_q F67 (qa 48 ai<|qa 20 aF<|qa 17 aE<|qa 11 aD<|qa 7 aC<|qa 6 aB<|q0) [] [none,none,none,none]
   rcases cn h with ⟨bK,cg,h⟩ | ⟨bK,cg,h⟩
   rotate_left
   ·have ch:=kR (cf:=evF PP T n) (fl:=0) (H:=(hp11 aA)) (a:=aA.At) (b:=(GPoint.mk 0 0)) bK
    obtain rfl:=si h
    exact pv_q F67 (qb 54 ch<|qa 48 ai<|qa 20 aF<|qa 17 aE<|qa 11 aD<|qa 7 aC<|qa 6 aB<|q0) [] [none,none,none,none]
   have bm:=kR (cf:=evF PP T n) (fl:=0) (H:=(hp11 aA)) (a:=aA.At) (b:=(GPoint.mk 0 0)) bK
   have bn:=kP (P:=PP) (cf:=evF PP T n) (fl:=0) (H:=(hp11 aA)) (f:=false) (c:=kI) (l:=aA.Via)
   rcases cn h with ⟨ci,bL,h⟩ | ⟨ci,bL,h⟩
   ·obtain rfl:=si h
    exact pv_q F67 (qa 60 bL<|qb 59 bn<|qb 54 bm<|qa 48 ai<|qa 20 aF<|qa 17 aE<|qa 11 aD<|qa 7 aC<|qa 6 aB<|q0) [] [none,none,none,none]
   obtain rfl:=si h
   exact pv_q F67 (qa 60 bL<|qb 59 bn<|qb 54 bm<|qa 48 ai<|qa 20 aF<|qa 17 aE<|qa 11 aD<|qa 7 aC<|qa 6 aB<|q0) [] [none,none,none,none]
  rcases cn h with ⟨cj,aG,h⟩ | ⟨cj,aG,h⟩
  ·rcases cn h with ⟨ck,aO,h⟩ | ⟨ck,aO,h⟩
   ·obtain rfl:=si h
    exact pv_q F67 (qa 39 aO<|qa 26 aG<|qa 20 aF<|qa 17 aE<|qa 11 aD<|qa 7 aC<|qa 6 aB<|q0) [] [none]
   rcases cn h with ⟨cl,aW,h⟩ | ⟨cl,aW,h⟩
   ·obtain rfl:=si h
    exact pv_q F67 (qa 43 aW<|qa 39 aO<|qa 26 aG<|qa 20 aF<|qa 17 aE<|qa 11 aD<|qa 7 aC<|qa 6 aB<|q0) [] [none]
   rcases cn h with ⟨cm,ae,h⟩ | ⟨cm,ae,h⟩
   ·obtain rfl:=si h
    exact pv_q F67 (qa 48 ae<|qa 43 aW<|qa 39 aO<|qa 26 aG<|qa 20 aF<|qa 17 aE<|qa 11 aD<|qa 7 aC<|qa 6 aB<|q0) [] [none]
   rcases cn h with ⟨bM,co,h⟩ | ⟨bM,co,h⟩
   rotate_left
   ·have cp:=kR (cf:=evF PP T n) (fl:=0) (H:=(hp12 aA)) (a:=aA.At) (b:=(GPoint.mk 0 0)) bM
    obtain rfl:=si h
    exact pv_q F67 (qb 54 cp<|qa 48 ae<|qa 43 aW<|qa 39 aO<|qa 26 aG<|qa 20 aF<|qa 17 aE<|qa 11 aD<|qa 7 aC<|qa 6 aB<|q0) [] [none]
   have bN:=kR (cf:=evF PP T n) (fl:=0) (H:=(hp12 aA)) (a:=aA.At) (b:=(GPoint.mk 0 0)) bM
   have bO:=kP (P:=PP) (cf:=evF PP T n) (fl:=0) (H:=(hp12 aA)) (f:=false) (c:=kI) (l:=aA.Via)
   rcases cn h with ⟨cq,ao,h⟩ | ⟨cq,ao,h⟩
   ·obtain rfl:=si h
    exact pv_q F67 (qa 60 ao<|qb 59 bO<|qb 54 bN<|qa 48 ae<|qa 43 aW<|qa 39 aO<|qa 26 aG<|qa 20 aF<|qa 17 aE<|qa 11 aD<|qa 7 aC<|qa 6 aB<|q0) [] [none]
   have bo:=kP (P:=PP) (cf:=evF PP T n) (fl:=0) (H:=(hp12 aA)) (f:=false) (c:=kL) (l:=aA.Parts)
   rcases cn h with ⟨cr,bP,h⟩ | ⟨cr,bP,h⟩
   ·obtain rfl:=si h
    exact pv_q F67 (qa 71 bP<|qb 70 bo<|qa 60 ao<|qb 59 bO<|qb 54 bN<|qa 48 ae<|qa 43 aW<|qa 39 aO<|qa 26 aG<|qa 20 aF<|qa 17 aE<|qa 11 aD<|qa 7 aC<|qa 6 aB<|q0) [] [none]
   obtain rfl:=si h
   exact pv_q F67 (qa 71 bP<|qb 70 bo<|qa 60 ao<|qb 59 bO<|qb 54 bN<|qa 48 ae<|qa 43 aW<|qa 39 aO<|qa 26 aG<|qa 20 aF<|qa 17 aE<|qa 11 aD<|qa 7 aC<|qa 6 aB<|q0) [] [none]
  rcases cn h with ⟨cs,aH,h⟩ | ⟨cs,aH,h⟩
  ·rcases cn h with ⟨ct,aP,h⟩ | ⟨ct,aP,h⟩
   ·obtain rfl:=si h
    exact pv_q F67 (qa 39 aP<|qa 29 aH<|qa 26 aG<|qa 20 aF<|qa 17 aE<|qa 11 aD<|qa 7 aC<|qa 6 aB<|q0) [] [none]
   rcases cn h with ⟨cu,aX,h⟩ | ⟨cu,aX,h⟩
   ·obtain rfl:=si h
    exact pv_q F67 (qa 48 aX<|qa 39 aP<|qa 29 aH<|qa 26 aG<|qa 20 aF<|qa 17 aE<|qa 11 aD<|qa 7 aC<|qa 6 aB<|q0) [] [none]
   rcases cn h with ⟨bQ,cv,h⟩ | ⟨bQ,cv,h⟩
   rotate_left
   ·have cw:=kR (cf:=evF PP T n) (fl:=0) (H:=(hp13 aA)) (a:=aA.At) (b:=(GPoint.mk 0 0)) bQ
    obtain rfl:=si h
    exact pv_q F67 (qb 54 cw<|qa 48 aX<|qa 39 aP<|qa 29 aH<|qa 26 aG<|qa 20 aF<|qa 17 aE<|qa 11 aD<|qa 7 aC<|qa 6 aB<|q0) [] [none]
   have ap:=kR (cf:=evF PP T n) (fl:=0) (H:=(hp13 aA)) (a:=aA.At) (b:=(GPoint.mk 0 0)) bQ
   have aq:=kP (P:=PP) (cf:=evF PP T n) (fl:=0) (H:=(hp13 aA)) (f:=false) (c:=kI) (l:=aA.Via)
   rcases cn h with ⟨cx,aj,h⟩ | ⟨cx,aj,h⟩
   ·obtain rfl:=si h
    exact pv_q F67 (qa 60 aj<|qb 59 aq<|qb 54 ap<|qa 48 aX<|qa 39 aP<|qa 29 aH<|qa 26 aG<|qa 20 aF<|qa 17 aE<|qa 11 aD<|qa 7 aC<|qa 6 aB<|q0) [] [none]
   rcases cn h with ⟨bR,cy,h⟩ | ⟨bR,cy,h⟩
   rotate_left
   ·have cz:=lF (P:=PP) (cf:=evF PP T n) (fl:=0) (H:=(hp13 aA)) (t:=9) bR
    obtain rfl:=si h
    exact pv_q F67 (qb 65 cz<|qa 60 aj<|qb 59 aq<|qb 54 ap<|qa 48 aX<|qa 39 aP<|qa 29 aH<|qa 26 aG<|qa 20 aF<|qa 17 aE<|qa 11 aD<|qa 7 aC<|qa 6 aB<|q0) [] [none]
   have bp:=lF (P:=PP) (cf:=evF PP T n) (fl:=0) (H:=(hp13 aA)) (t:=9) bR
   have bq:=kP (P:=PP) (cf:=evF PP T n) (fl:=0) (H:=(hp13 aA)) (f:=false) (c:=kL) (l:=aA.Parts)
   rcases cn h with ⟨dA,bS,h⟩ | ⟨dA,bS,h⟩
   ·obtain rfl:=si h
    exact pv_q F67 (qa 71 bS<|qb 70 bq<|qb 65 bp<|qa 60 aj<|qb 59 aq<|qb 54 ap<|qa 48 aX<|qa 39 aP<|qa 29 aH<|qa 26 aG<|qa 20 aF<|qa 17 aE<|qa 11 aD<|qa 7 aC<|qa 6 aB<|q0) [] [none]
   obtain rfl:=si h
   exact pv_q F67 (qa 71 bS<|qb 70 bq<|qb 65 bp<|qa 60 aj<|qb 59 aq<|qb 54 ap<|qa 48 aX<|qa 39 aP<|qa 29 aH<|qa 26 aG<|qa 20 aF<|qa 17 aE<|qa 11 aD<|qa 7 aC<|qa 6 aB<|q0) [] [none]
  rcases cn h with ⟨dB,aI,h⟩ | ⟨dB,aI,h⟩
  ·rcases cn h with ⟨dC,aQ,h⟩ | ⟨dC,aQ,h⟩
   ·obtain rfl:=si h
    exact pv_q F67 (qa 39 aQ<|qa 32 aI<|qa 29 aH<|qa 26 aG<|qa 20 aF<|qa 17 aE<|qa 11 aD<|qa 7 aC<|qa 6 aB<|q0) [] [none]
   rcases cn h with ⟨dD,aY,h⟩ | ⟨dD,aY,h⟩
   ·obtain rfl:=si h
    exact pv_q F67 (qa 43 aY<|qa 39 aQ<|qa 32 aI<|qa 29 aH<|qa 26 aG<|qa 20 aF<|qa 17 aE<|qa 11 aD<|qa 7 aC<|qa 6 aB<|q0) [] [none]
   rcases cn h with ⟨dE,af,h⟩ | ⟨dE,af,h⟩
   ·obtain rfl:=si h
    exact pv_q F67 (qa 48 af<|qa 43 aY<|qa 39 aQ<|qa 32 aI<|qa 29 aH<|qa 26 aG<|qa 20 aF<|qa 17 aE<|qa 11 aD<|qa 7 aC<|qa 6 aB<|q0) [] [none]
   rcases cn h with ⟨bT,dF,h⟩ | ⟨bT,dF,h⟩
   rotate_left
   ·have dG:=kR (cf:=evF PP T n) (fl:=0) (H:=(hp14 aA)) (a:=aA.At) (b:=(GPoint.mk 0 0)) bT
    obtain rfl:=si h
    exact pv_q F67 (qb 54 dG<|qa 48 af<|qa 43 aY<|qa 39 aQ<|qa 32 aI<|qa 29 aH<|qa 26 aG<|qa 20 aF<|qa 17 aE<|qa 11 aD<|qa 7 aC<|qa 6 aB<|q0) [] [none]
   have bU:=kR (cf:=evF PP T n) (fl:=0) (H:=(hp14 aA)) (a:=aA.At) (b:=(GPoint.mk 0 0)) bT
   have bV:=kP (P:=PP) (cf:=evF PP T n) (fl:=0) (H:=(hp14 aA)) (f:=false) (c:=kI) (l:=aA.Via)
   rcases cn h with ⟨dH,ar,h⟩ | ⟨dH,ar,h⟩
   ·obtain rfl:=si h
    exact pv_q F67 (qa 60 ar<|qb 59 bV<|qb 54 bU<|qa 48 af<|qa 43 aY<|qa 39 aQ<|qa 32 aI<|qa 29 aH<|qa 26 aG<|qa 20 aF<|qa 17 aE<|qa 11 aD<|qa 7 aC<|qa 6 aB<|q0) [] [none]
   rcases cn h with ⟨bW,dI,h⟩ | ⟨bW,dI,h⟩
   ·have dJ:=lF (P:=PP) (cf:=evF PP T n) (fl:=0) (H:=(hp14 aA)) (t:=9) bW
    obtain rfl:=si h
    exact pv_q F67 (qb 65 dJ<|qa 60 ar<|qb 59 bV<|qb 54 bU<|qa 48 af<|qa 43 aY<|qa 39 aQ<|qa 32 aI<|qa 29 aH<|qa 26 aG<|qa 20 aF<|qa 17 aE<|qa 11 aD<|qa 7 aC<|qa 6 aB<|q0) [] [none]
   have dK:=lF (P:=PP) (cf:=evF PP T n) (fl:=0) (H:=(hp14 aA)) (t:=9) bW
   obtain rfl:=si h
   exact pv_q F67 (qb 65 dK<|qa 60 ar<|qb 59 bV<|qb 54 bU<|qa 48 af<|qa 43 aY<|qa 39 aQ<|qa 32 aI<|qa 29 aH<|qa 26 aG<|qa 20 aF<|qa 17 aE<|qa 11 aD<|qa 7 aC<|qa 6 aB<|q0) [] [none]
  rcases cn h with ⟨dL,aJ,h⟩ | ⟨dL,aJ,h⟩
  ·rcases cn h with ⟨dM,aR,h⟩ | ⟨dM,aR,h⟩
   ·obtain rfl:=si h
    exact pv_q F67 (qa 43 aR<|qa 35 aJ<|qa 32 aI<|qa 29 aH<|qa 26 aG<|qa 20 aF<|qa 17 aE<|qa 11 aD<|qa 7 aC<|qa 6 aB<|q0) [] [none]
   rcases cn h with ⟨dN,aZ,h⟩ | ⟨dN,aZ,h⟩
   ·obtain rfl:=si h
    exact pv_q F67 (qa 48 aZ<|qa 43 aR<|qa 35 aJ<|qa 32 aI<|qa 29 aH<|qa 26 aG<|qa 20 aF<|qa 17 aE<|qa 11 aD<|qa 7 aC<|qa 6 aB<|q0) [] [none]
   rcases cn h with ⟨bX,dO,h⟩ | ⟨bX,dO,h⟩
   rotate_left
   ·have dP:=kR (cf:=evF PP T n) (fl:=0) (H:=(hp15 aA)) (a:=aA.At) (b:=(GPoint.mk 0 0)) bX
    obtain rfl:=si h
    exact pv_q F67 (qb 54 dP<|qa 48 aZ<|qa 43 aR<|qa 35 aJ<|qa 32 aI<|qa 29 aH<|qa 26 aG<|qa 20 aF<|qa 17 aE<|qa 11 aD<|qa 7 aC<|qa 6 aB<|q0) [] [none]
   have au:=kR (cf:=evF PP T n) (fl:=0) (H:=(hp15 aA)) (a:=aA.At) (b:=(GPoint.mk 0 0)) bX
   have av:=kP (P:=PP) (cf:=evF PP T n) (fl:=0) (H:=(hp15 aA)) (f:=false) (c:=kI) (l:=aA.Via)
   rcases cn h with ⟨dQ,ak,h⟩ | ⟨dQ,ak,h⟩
   ·obtain rfl:=si h
    exact pv_q F67 (qa 60 ak<|qb 59 av<|qb 54 au<|qa 48 aZ<|qa 43 aR<|qa 35 aJ<|qa 32 aI<|qa 29 aH<|qa 26 aG<|qa 20 aF<|qa 17 aE<|qa 11 aD<|qa 7 aC<|qa 6 aB<|q0) [] [none]
   rcases cn h with ⟨bY,dR,h⟩ | ⟨bY,dR,h⟩
   rotate_left
   ·have dS:=lF (P:=PP) (cf:=evF PP T n) (fl:=0) (H:=(hp15 aA)) (t:=9) bY
    obtain rfl:=si h
    exact pv_q F67 (qb 65 dS<|qa 60 ak<|qb 59 av<|qb 54 au<|qa 48 aZ<|qa 43 aR<|qa 35 aJ<|qa 32 aI<|qa 29 aH<|qa 26 aG<|qa 20 aF<|qa 17 aE<|qa 11 aD<|qa 7 aC<|qa 6 aB<|q0) [] [none]
   have br:=lF (P:=PP) (cf:=evF PP T n) (fl:=0) (H:=(hp15 aA)) (t:=9) bY
   have bs:=kP (P:=PP) (cf:=evF PP T n) (fl:=0) (H:=(hp15 aA)) (f:=false) (c:=kL) (l:=aA.Parts)
   rcases cn h with ⟨dT,bZ,h⟩ | ⟨dT,bZ,h⟩
   ·obtain rfl:=si h
    exact pv_q F67 (qa 71 bZ<|qb 70 bs<|qb 65 br<|qa 60 ak<|qb 59 av<|qb 54 au<|qa 48 aZ<|qa 43 aR<|qa 35 aJ<|qa 32 aI<|qa 29 aH<|qa 26 aG<|qa 20 aF<|qa 17 aE<|qa 11 aD<|qa 7 aC<|qa 6 aB<|q0) [] [none]
   obtain rfl:=si h
   exact pv_q F67 (qa 71 bZ<|qb 70 bs<|qb 65 br<|qa 60 ak<|qb 59 av<|qb 54 au<|qa 48 aZ<|qa 43 aR<|qa 35 aJ<|qa 32 aI<|qa 29 aH<|qa 26 aG<|qa 20 aF<|qa 17 aE<|qa 11 aD<|qa 7 aC<|qa 6 aB<|q0) [] [none]
  rcases cn h with ⟨dU,aK,h⟩ | ⟨dU,aK,h⟩
  ·obtain rfl:=si h
   exact pv_q F67 (qa 39 aK<|qa 35 aJ<|qa 32 aI<|qa 29 aH<|qa 26 aG<|qa 20 aF<|qa 17 aE<|qa 11 aD<|qa 7 aC<|qa 6 aB<|q0) [] []
  rcases cn h with ⟨dV,aS,h⟩ | ⟨dV,aS,h⟩
  ·obtain rfl:=si h
   exact pv_q F67 (qa 43 aS<|qa 39 aK<|qa 35 aJ<|qa 32 aI<|qa 29 aH<|qa 26 aG<|qa 20 aF<|qa 17 aE<|qa 11 aD<|qa 7 aC<|qa 6 aB<|q0) [] []
  rcases cn h with ⟨dW,aa,h⟩ | ⟨dW,aa,h⟩
  ·obtain rfl:=si h
   exact pv_q F67 (qa 48 aa<|qa 43 aS<|qa 39 aK<|qa 35 aJ<|qa 32 aI<|qa 29 aH<|qa 26 aG<|qa 20 aF<|qa 17 aE<|qa 11 aD<|qa 7 aC<|qa 6 aB<|q0) [] []
  rcases cn h with ⟨ba,dX,h⟩ | ⟨ba,dX,h⟩
  rotate_left
  ·have dY:=kR (cf:=evF PP T n) (fl:=0) (H:=[(.blk 10 [(kD aA)])]) (a:=aA.At) (b:=(GPoint.mk 0 0)) ba
   obtain rfl:=si h
   exact pv_q F67 (qb 54 dY<|qa 48 aa<|qa 43 aS<|qa 39 aK<|qa 35 aJ<|qa 32 aI<|qa 29 aH<|qa 26 aG<|qa 20 aF<|qa 17 aE<|qa 11 aD<|qa 7 aC<|qa 6 aB<|q0) [] []
  have aw:=kR (cf:=evF PP T n) (fl:=0) (H:=[(.blk 10 [(kD aA)])]) (a:=aA.At) (b:=(GPoint.mk 0 0)) ba
  have ax:=kP (P:=PP) (cf:=evF PP T n) (fl:=0) (H:=[(.blk 10 [(kD aA)])]) (f:=false) (c:=kI) (l:=aA.Via)
  rcases cn h with ⟨dZ,al,h⟩ | ⟨dZ,al,h⟩
  ·obtain rfl:=si h
   exact pv_q F67 (qa 60 al<|qb 59 ax<|qb 54 aw<|qa 48 aa<|qa 43 aS<|qa 39 aK<|qa 35 aJ<|qa 32 aI<|qa 29 aH<|qa 26 aG<|qa 20 aF<|qa 17 aE<|qa 11 aD<|qa 7 aC<|qa 6 aB<|q0) [] []
  rcases cn h with ⟨bb,da,h⟩ | ⟨bb,da,h⟩
  rotate_left
  ·have db:=lF (P:=PP) (cf:=evF PP T n) (fl:=0) (H:=[(.blk 10 [(kD aA)])]) (t:=9) bb
   obtain rfl:=si h
   exact pv_q F67 (qb 65 db<|qa 60 al<|qb 59 ax<|qb 54 aw<|qa 48 aa<|qa 43 aS<|qa 39 aK<|qa 35 aJ<|qa 32 aI<|qa 29 aH<|qa 26 aG<|qa 20 aF<|qa 17 aE<|qa 11 aD<|qa 7 aC<|qa 6 aB<|q0) [] []
  have bu:=lF (P:=PP) (cf:=evF PP T n) (fl:=0) (H:=[(.blk 10 [(kD aA)])]) (t:=9) bb
  have bw:=kP (P:=PP) (cf:=evF PP T n) (fl:=0) (H:=[(.blk 10 [(kD aA)])]) (f:=false) (c:=kL) (l:=aA.Parts)
  rcases cn h with ⟨dc,bc,h⟩ | ⟨dc,bc,h⟩
  ·obtain rfl:=si h
   exact pv_q F67 (qa 71 bc<|qb 70 bw<|qb 65 bu<|qa 60 al<|qb 59 ax<|qb 54 aw<|qa 48 aa<|qa 43 aS<|qa 39 aK<|qa 35 aJ<|qa 32 aI<|qa 29 aH<|qa 26 aG<|qa 20 aF<|qa 17 aE<|qa 11 aD<|qa 7 aC<|qa 6 aB<|q0) [] []
  obtain rfl:=si h
  exact pv_q F67 (qa 71 bc<|qb 70 bw<|qb 65 bu<|qa 60 al<|qb 59 ax<|qb 54 aw<|qa 48 aa<|qa 43 aS<|qa 39 aK<|qa 35 aJ<|qa 32 aI<|qa 29 aH<|qa 26 aG<|qa 20 aF<|qa 17 aE<|qa 11 aD<|qa 7 aC<|qa 6 aB<|q0) [] []
abbrev hp16 (a885 : GEdit) : Heap:=[(.blk 10 [(kD a885)]),(.blk 1 [[(.fn 88 [])]]),(.blk 4 [[(iv (-1048576)),(iv (-1048576)),(iv 1048576),(iv 1048576)]])]
abbrev hp17 (a885 : GEdit) : Heap:=[(.blk 10 [(kD a885)]),(.blk 1 [[(.fn 88 [])]]),(.blk 4 [[(iv (-1048576)),(iv (-1048576)),(iv 1048576),(iv 1048576)]]),(.blk 2 [[(iv a885.At.X),(iv a885.At.Y)]])]
def wL (aA : GEdit) (aB : Int) : St:=⟨[(.sl false (List.map kI aA.Via)),(.fn 89 [(.ptr 2 1 0 0)]),U,U,U,U,U,(iv ((aA.Via.length : Nat) : Int)),(iv aB),U,U,U,U,U,U,U,U,U,U],[(.blk 10 [(kD aA)]),(.blk 1 [[(.fn 88 [])]]),(.blk 4 [[(iv (-1048576)),(iv (-1048576)),(iv 1048576),(iv 1048576)]]),(.blk 2 [[(iv aA.At.X),(iv aA.At.Y)]])]⟩
def mU (aA : GEdit) (aB : Int) : St:=⟨[U,U,U,U,(iv aB),U,U,U,U,U,U,U,U,U,U,U,U,U,U],[(.blk 10 [(kD aA)]),(.blk 1 [[(.fn 88 [])]]),(.blk 4 [[(iv (-1048576)),(iv (-1048576)),(iv 1048576),(iv 1048576)]]),(.blk 2 [[(iv aA.At.X),(iv aA.At.Y)]])]⟩
def mT (aA : GEdit) : St:=⟨[U,U,U,U,U,U,U,U,U,U,U,U,U,U,U,U,U,U,U],[(.blk 10 [(kD aA)]),(.blk 1 [[(.fn 88 [])]]),(.blk 4 [[(iv (-1048576)),(iv (-1048576)),(iv 1048576),(iv 1048576)]]),(.blk 2 [[(iv aA.At.X),(iv aA.At.Y)]])]⟩
abbrev hp18 (a885 : GEdit) (x973 : GPoint) : Heap:=[(.blk 10 [(kD a885)]),(.blk 1 [[(.fn 88 [])]]),(.blk 4 [[(iv (-1048576)),(iv (-1048576)),(iv 1048576),(iv 1048576)]]),(.blk 2 [[(iv a885.At.X),(iv a885.At.Y)]]),(.blk 2 [[(iv x973.X),(iv x973.Y)]])]
def mG (n : Nat) (aB : GEdit) : Nat→Int→Option (Int ⊕ Unit)
 | 0,_=>none
 | m + 1,aA=>(cnd (decide (aA < ((aB.Via.length : Nat) : Int))) (bnd (idx aB.Via aA) fun aC=>(bnd (prd n) fun aD=>(bnd (f116 aD (GBox.mk (-1048576) (-1048576) 1048576 1048576) aC) fun aE=>(cnd (aE) (mG n aB m (IntKind.i64.wrap (aA + 1))) (some (Sum.inl aA)))))) (some (Sum.inr ())))
theorem lZ (n : Nat) (aA : GEdit) : ∀ (m : Nat) (aC : Int) (r : (Int ⊕ Unit)),mG n aA m aC=some r→lT [] lv1 false 0 4 (kW (kY (some lv8) false 0 4) (evC PP (evF PP T n) n 0 aTz) m (wL aA aC))=(match r with | .inl r=>some (.ret,mU aA r) | .inr r=>some ((.exit 0),mT aA))
 | 0,_,_,h=>by cases h
 | m + 1,aC,r,h=>by
  rw [mG] at h
  rcases cn h with ⟨aJ,aD,h⟩ | ⟨aJ,aD,h⟩
  rotate_left
  ·obtain rfl:=si h
   exact kX (some lv8) false (mT aA) (qa 9 aD<|q0) [] [] trivial
  obtain ⟨aB,aK,h⟩:=kE h
  have aF:=idxl (H:=(hp17 aA)) (f:=false) (c:=kI) aK (mS _)
  obtain ⟨aG,aL,h⟩:=kE h
  have aH:=lD aL
  obtain ⟨aT,aI,h⟩:=kE h
  rcases cn h with ⟨aE,aM,h⟩ | ⟨aE,aM,h⟩
  rotate_left
  ·have aN:=by have q:=pC aG (GBox.mk (-1048576) (-1048576) 1048576 1048576) aB _ aI; rw [aE] at q; exact q
   have aO : evF PP T n 4 89 [(.agg [(iv aB.X),(iv aB.Y)]),(.ptr 2 1 0 0)] (hp17 aA)=some (bt,(hp18 aA aB)):=by
    rw [aH]; exact kT F89 (qa 6 aN<|q0) [] []
   have aP : nH (evF PP T n) 0 true 89 [(.agg [(iv aB.X),(iv aB.Y)]),(.ptr 2 1 0 0)] (hp17 aA)=some (bt,(hp17 aA)):=qI rfl rfl aO rfl
   obtain rfl:=si h
   exact kX (some lv8) false (mU aA aC) (qb 16 aP<|qa 14 aF<|qa 9 aD<|q0) [] [] trivial
  have aQ:=by have q:=pC aG (GBox.mk (-1048576) (-1048576) 1048576 1048576) aB _ aI; rw [aE] at q; exact q
  have aR : evF PP T n 4 89 [(.agg [(iv aB.X),(iv aB.Y)]),(.ptr 2 1 0 0)] (hp17 aA)=some (bf,(hp18 aA aB)):=by
   rw [aH]; exact kT F89 (qa 6 aQ<|q0) [] []
  have aS : nH (evF PP T n) 0 true 89 [(.agg [(iv aB.X),(iv aB.Y)]),(.ptr 2 1 0 0)] (hp17 aA)=some (bf,(hp17 aA)):=qI rfl rfl aR rfl
  exact nx_q (wL aA (IntKind.i64.wrap (aC + 1))) (qb 16 aS<|qa 14 aF<|qa 9 aD<|q0) [] [] trivial (lZ n aA m (IntKind.i64.wrap (aC + 1)) r h)
def wK (aA : GEdit) (aB : Int) : St:=⟨[(.sl false (List.map kL aA.Parts)),(.fn 91 [(.ptr 1 1 0 0)]),U,U,U,U,U,(iv ((aA.Parts.length : Nat) : Int)),(iv aB),U,U,U,U,U,U,U,U,U,U],[(.blk 10 [(kD aA)]),(.blk 1 [[(.fn 88 [])]]),(.blk 4 [[(iv (-1048576)),(iv (-1048576)),(iv 1048576),(iv 1048576)]]),(.blk 2 [[(iv aA.At.X),(iv aA.At.Y)]])]⟩
def lO (aA : GEdit) (aB : Int) : St:=⟨[U,U,U,U,(iv aB),U,U,U,U,U,U,U,U,U,U,U,U,U,U],[(.blk 10 [(kD aA)]),(.blk 1 [[(.fn 88 [])]]),(.blk 4 [[(iv (-1048576)),(iv (-1048576)),(iv 1048576),(iv 1048576)]]),(.blk 2 [[(iv aA.At.X),(iv aA.At.Y)]])]⟩
def lU (aA : GEdit) : St:=⟨[U,U,U,U,U,U,U,U,U,U,U,U,U,U,U,U,U,U,U],[(.blk 10 [(kD aA)]),(.blk 1 [[(.fn 88 [])]]),(.blk 4 [[(iv (-1048576)),(iv (-1048576)),(iv 1048576),(iv 1048576)]]),(.blk 2 [[(iv aA.At.X),(iv aA.At.Y)]])]⟩
def lM (n : Nat) (aB : GEdit) : Nat→Int→Option (Int ⊕ Unit)
 | 0,_=>none
 | m + 1,aA=>(cnd (decide (aA < ((aB.Parts.length : Nat) : Int))) (bnd (idx aB.Parts aA) fun aC=>(bnd (prd n) fun aD=>(bnd (prd aD) fun aE=>(cnd (decide (1 ≤ aC)) (cnd (decide (aC ≤ 1073741824)) (lM n aB m (IntKind.i64.wrap (aA + 1))) (some (Sum.inl aA))) (some (Sum.inl aA)))))) (some (Sum.inr ())))
theorem kZ (n : Nat) (aA : GEdit) : ∀ (m : Nat) (aC : Int) (r : (Int ⊕ Unit)),lM n aA m aC=some r→lT [] lv1 false 0 4 (kW (kY (some lv8) false 0 4) (evC PP (evF PP T n) n 0 aTy) m (wK aA aC))=(match r with | .inl r=>some (.ret,lO aA r) | .inr r=>some ((.exit 0),lU aA))
 | 0,_,_,h=>by cases h
 | m + 1,aC,r,h=>by
  rw [lM] at h
  rcases cn h with ⟨aK,aD,h⟩ | ⟨aK,aD,h⟩
  rotate_left
  ·obtain rfl:=si h
   exact kX (some lv8) false (lU aA) (qa 9 aD<|q0) [] [] trivial
  obtain ⟨aB,aL,h⟩:=kE h
  have aF:=idxl (H:=(hp17 aA)) (f:=false) (c:=kL) aL (lS _)
  obtain ⟨aG,aM,h⟩:=kE h
  have aH:=lD aM
  obtain ⟨aZ,aN,h⟩:=kE h
  have aI:=lD aN
  rcases cn h with ⟨aO,aE,h⟩ | ⟨aO,aE,h⟩
  rotate_left
  ·have aP : evF PP T aG 4 88 [(iv aB)] (hp17 aA)=some (bf,(hp17 aA)):=by
    rw [aI]; exact kT F88 (qa 4 aE<|q0) [] []
   have aQ : evF PP T n 4 91 [(iv aB),(.ptr 1 1 0 0)] (hp17 aA)=some (bt,(hp17 aA)):=by
    rw [aH]; exact kT F91 (qb 6 aP<|q0) [] []
   have aR : nH (evF PP T n) 0 true 91 [(iv aB),(.ptr 1 1 0 0)] (hp17 aA)=some (bt,(hp17 aA)):=qI rfl rfl aQ rfl
   obtain rfl:=si h
   exact kX (some lv8) false (lO aA aC) (qb 16 aR<|qa 14 aF<|qa 9 aD<|q0) [] [] trivial
  rcases cn h with ⟨aS,aJ,h⟩ | ⟨aS,aJ,h⟩
  rotate_left
  ·have aT : evF PP T aG 4 88 [(iv aB)] (hp17 aA)=some (bf,(hp17 aA)):=by
    rw [aI]; exact kT F88 (qa 7 aJ<|qa 4 aE<|q0) [] []
   have aU : evF PP T n 4 91 [(iv aB),(.ptr 1 1 0 0)] (hp17 aA)=some (bt,(hp17 aA)):=by
    rw [aH]; exact kT F91 (qb 6 aT<|q0) [] []
   have aV : nH (evF PP T n) 0 true 91 [(iv aB),(.ptr 1 1 0 0)] (hp17 aA)=some (bt,(hp17 aA)):=qI rfl rfl aU rfl
   obtain rfl:=si h
   exact kX (some lv8) false (lO aA aC) (qb 16 aV<|qa 14 aF<|qa 9 aD<|q0) [] [] trivial
  have aW : evF PP T aG 4 88 [(iv aB)] (hp17 aA)=some (bt,(hp17 aA)):=by
   rw [aI]; exact kT F88 (qa 7 aJ<|qa 4 aE<|q0) [] []
  have aX : evF PP T n 4 91 [(iv aB),(.ptr 1 1 0 0)] (hp17 aA)=some (bf,(hp17 aA)):=by
   rw [aH]; exact kT F91 (qb 6 aW<|q0) [] []
  have aY : nH (evF PP T n) 0 true 91 [(iv aB),(.ptr 1 1 0 0)] (hp17 aA)=some (bf,(hp17 aA)):=qI rfl rfl aX rfl
  exact nx_q (wK aA (IntKind.i64.wrap (aC + 1))) (qb 16 aY<|qa 14 aF<|qa 9 aD<|q0) [] [] trivial (kZ n aA m (IntKind.i64.wrap (aC + 1)) r h)
def f68 : Nat→GEdit→Option Bool
 | 0,_=>none
 | n + 1,aA=>(cnd (aA.Kind == 4) (bnd (prd n) fun bG=>(cnd (decide (1 ≤ aA.A)) (cnd (decide (aA.A ≤ 1073741824)) (bnd (prd n) fun bH=>(cnd (decide (1 ≤ aA.B)) (cnd (decide (aA.B ≤ 1073741824)) (bnd (prd n) fun bI=>(cnd (decide (1 ≤ aA.ID)) (cnd (decide (aA.ID ≤ 1073741824)) (cnd (decide (aA.C < (-1073741824))) (some false) (cnd (decide (aA.C > 1073741824)) (some false) (bnd (prd n) fun aQ=>(bnd (f116 aQ (GBox.mk (-1048576) (-1048576) 1048576 1048576) aA.At) fun aR=>(cnd (aR) (bnd (prd n) fun aS=>(bnd (prd aS) fun aB=>(bnd2 (mG aB aA aB 0) (fun aT=>(cnd (decide (aT ≥ 0)) (some false) (bnd (prd n) fun aU=>(bnd (prd aU) fun aC=>(bnd2 (lM aC aA aC 0) (fun aV=>(cnd (decide (aV ≥ 0)) (some false) (some true))) (fun bJ=>(some true))))))) (fun bK=>(bnd (prd n) fun aW=>(bnd (prd aW) fun aD=>(bnd2 (lM aD aA aD 0) (fun aX=>(cnd (decide (aX ≥ 0)) (some false) (some true))) (fun bL=>(some true))))))))) (some false)))))) (some false)) (some false))) (some false)) (some false))) (some false)) (some false))) (cnd (aA.Kind == 12) (bnd (prd n) fun bM=>(cnd (decide (1 ≤ aA.A)) (cnd (decide (aA.A ≤ 1073741824)) (bnd (prd n) fun bN=>(cnd (decide (1 ≤ aA.ID)) (cnd (decide (aA.ID ≤ 1073741824)) (cnd (decide (aA.C < (-1073741824))) (some false) (cnd (decide (aA.C > 1073741824)) (some false) (bnd (prd n) fun aY=>(bnd (f116 aY (GBox.mk (-1048576) (-1048576) 1048576 1048576) aA.At) fun aZ=>(cnd (aZ) (bnd (prd n) fun aa=>(bnd (prd aa) fun aE=>(bnd2 (mG aE aA aE 0) (fun ab=>(cnd (decide (ab ≥ 0)) (some false) (bnd (prd n) fun ac=>(bnd (prd ac) fun aF=>(bnd2 (lM aF aA aF 0) (fun ad=>(cnd (decide (ad ≥ 0)) (some false) (some true))) (fun bO=>(some true))))))) (fun bP=>(bnd (prd n) fun ae=>(bnd (prd ae) fun aG=>(bnd2 (lM aG aA aG 0) (fun af=>(cnd (decide (af ≥ 0)) (some false) (some true))) (fun bQ=>(some true))))))))) (some false)))))) (some false)) (some false))) (some false)) (some false))) (cnd (aA.Kind == 7) (cnd (decide (aA.B < 1)) (some false) (cnd (decide (aA.B > 9)) (some false) (bnd (prd n) fun bR=>(cnd (decide (1 ≤ aA.ID)) (cnd (decide (aA.ID ≤ 1073741824)) (cnd (decide (aA.C < (-1073741824))) (some false) (cnd (decide (aA.C > 1073741824)) (some false) (bnd (prd n) fun ag=>(bnd (f116 ag (GBox.mk (-1048576) (-1048576) 1048576 1048576) aA.At) fun ah=>(cnd (ah) (bnd (prd n) fun ai=>(bnd (prd ai) fun aH=>(bnd2 (mG aH aA aH 0) (fun aj=>(cnd (decide (aj ≥ 0)) (some false) (bnd (prd n) fun ak=>(bnd (prd ak) fun aI=>(bnd2 (lM aI aA aI 0) (fun al=>(cnd (decide (al ≥ 0)) (some false) (some true))) (fun bS=>(some true))))))) (fun bT=>(bnd (prd n) fun am=>(bnd (prd am) fun aJ=>(bnd2 (lM aJ aA aJ 0) (fun an=>(cnd (decide (an ≥ 0)) (some false) (some true))) (fun bU=>(some true))))))))) (some false)))))) (some false)) (some false))))) (cnd (aA.Kind == 10) (cnd (decide (aA.B < 1)) (some false) (cnd (decide (aA.B > 9)) (some false) (bnd (prd n) fun bV=>(cnd (decide (1 ≤ aA.ID)) (cnd (decide (aA.ID ≤ 1073741824)) (cnd (decide (aA.C < (-1073741824))) (some false) (cnd (decide (aA.C > 1073741824)) (some false) (bnd (prd n) fun ao=>(bnd (f116 ao (GBox.mk (-1048576) (-1048576) 1048576 1048576) aA.At) fun ap=>(cnd (ap) (bnd (prd n) fun aq=>(bnd (prd aq) fun aK=>(bnd2 (mG aK aA aK 0) (fun ar=>(cnd (decide (ar ≥ 0)) (some false) (bnd (prd n) fun au=>(bnd (prd au) fun aL=>(bnd2 (lM aL aA aL 0) (fun av=>(cnd (decide (av ≥ 0)) (some false) (some true))) (fun bW=>(some true))))))) (fun bX=>(bnd (prd n) fun aw=>(bnd (prd aw) fun aM=>(bnd2 (lM aM aA aM 0) (fun ax=>(cnd (decide (ax ≥ 0)) (some false) (some true))) (fun bY=>(some true))))))))) (some false)))))) (some false)) (some false))))) (bnd (prd n) fun bZ=>(cnd (decide (1 ≤ aA.ID)) (cnd (decide (aA.ID ≤ 1073741824)) (cnd (decide (aA.C < (-1073741824))) (some false) (cnd (decide (aA.C > 1073741824)) (some false) (bnd (prd n) fun ay=>(bnd (f116 ay (GBox.mk (-1048576) (-1048576) 1048576 1048576) aA.At) fun az=>(cnd (az) (bnd (prd n) fun bA=>(bnd (prd bA) fun aN=>(bnd2 (mG aN aA aN 0) (fun bB=>(cnd (decide (bB ≥ 0)) (some false) (bnd (prd n) fun bC=>(bnd (prd bC) fun aO=>(bnd2 (lM aO aA aO 0) (fun bD=>(cnd (decide (bD ≥ 0)) (some false) (some true))) (fun ba=>(some true))))))) (fun bb=>(bnd (prd n) fun bE=>(bnd (prd bE) fun aP=>(bnd2 (lM aP aA aP 0) (fun bF=>(cnd (decide (bF ≥ 0)) (some false) (some true))) (fun bc=>(some true))))))))) (some false)))))) (some false)) (some false)))))))
theorem aKc (n : Nat) (aA : GEdit) (r : Bool) (h : f68 n aA=some r) : pv PP T n 68 [(.agg (kD aA))]=some (bv r):=by
 cases n with
 | zero=>cases h
 | succ n =>
  rw [f68] at h
  rcases cn h with ⟨gA,aB,h⟩ | ⟨gA,aB,h⟩
  ·obtain ⟨jb,gB,h⟩:=kE h
   have bF:=lD gB
   rcases cn h with ⟨gC,ax,h⟩ | ⟨gC,ax,h⟩
   rotate_left
   ·have gD : evF PP T n 0 88 [(iv aA.A)] (hp16 aA)=some (bf,(hp16 aA)):=by
     rw [bF]; exact kT F88 (qa 4 ax<|q0) [] []
    obtain rfl:=si h
    exact pv_q F68 (qb 15 gD<|qa 11 aB<|q0) [] [none,none]
   rcases cn h with ⟨gE,bG,h⟩ | ⟨gE,bG,h⟩
   rotate_left
   ·have gF : evF PP T n 0 88 [(iv aA.A)] (hp16 aA)=some (bf,(hp16 aA)):=by
     rw [bF]; exact kT F88 (qa 7 bG<|qa 4 ax<|q0) [] []
    obtain rfl:=si h
    exact pv_q F68 (qb 15 gF<|qa 11 aB<|q0) [] [none,none]
   have aH : evF PP T n 0 88 [(iv aA.A)] (hp16 aA)=some (bt,(hp16 aA)):=by
    rw [bF]; exact kT F88 (qa 7 bG<|qa 4 ax<|q0) [] []
   obtain ⟨jc,gG,h⟩:=kE h
   have bH:=lD gG
   rcases cn h with ⟨gH,ay,h⟩ | ⟨gH,ay,h⟩
   rotate_left
   ·have gI : evF PP T n 0 88 [(iv aA.B)] (hp16 aA)=some (bf,(hp16 aA)):=by
     rw [bH]; exact kT F88 (qa 4 ay<|q0) [] []
    obtain rfl:=si h
    exact pv_q F68 (qb 21 gI<|qb 15 aH<|qa 11 aB<|q0) [] [none,none]
   rcases cn h with ⟨gJ,bI,h⟩ | ⟨gJ,bI,h⟩
   rotate_left
   ·have gK : evF PP T n 0 88 [(iv aA.B)] (hp16 aA)=some (bf,(hp16 aA)):=by
     rw [bH]; exact kT F88 (qa 7 bI<|qa 4 ay<|q0) [] []
    obtain rfl:=si h
    exact pv_q F68 (qb 21 gK<|qb 15 aH<|qa 11 aB<|q0) [] [none,none]
   have aK : evF PP T n 0 88 [(iv aA.B)] (hp16 aA)=some (bt,(hp16 aA)):=by
    rw [bH]; exact kT F88 (qa 7 bI<|qa 4 ay<|q0) [] []
   obtain ⟨jd,gL,h⟩:=kE h
   have bJ:=lD gL
   rcases cn h with ⟨gM,az,h⟩ | ⟨gM,az,h⟩
   rotate_left
   ·have gN : evF PP T n 0 88 [(iv aA.ID)] (hp16 aA)=some (bf,(hp16 aA)):=by
     rw [bJ]; exact kT F88 (qa 4 az<|q0) [] []
    obtain rfl:=si h
    exact pv_q F68 (qb 45 gN<|qb 21 aK<|qb 15 aH<|qa 11 aB<|q0) [] [none,none]
   rcases cn h with ⟨gO,bK,h⟩ | ⟨gO,bK,h⟩
   rotate_left
   ·have gP : evF PP T n 0 88 [(iv aA.ID)] (hp16 aA)=some (bf,(hp16 aA)):=by
     rw [bJ]; exact kT F88 (qa 7 bK<|qa 4 az<|q0) [] []
    obtain rfl:=si h
    exact pv_q F68 (qb 45 gP<|qb 21 aK<|qb 15 aH<|qa 11 aB<|q0) [] [none,none]
   have aR : evF PP T n 0 88 [(iv aA.ID)] (hp16 aA)=some (bt,(hp16 aA)):=by
    rw [bJ]; exact kT F88 (qa 7 bK<|qa 4 az<|q0) [] []
   rcases cn h with ⟨gQ,aM,h⟩ | ⟨gQ,aM,h⟩
   ·obtain rfl:=si h
    exact pv_q F68 (qa 50 aM<|qb 45 aR<|qb 21 aK<|qb 15 aH<|qa 11 aB<|q0) [] [none,none]
   rcases cn h with ⟨gR,aS,h⟩ | ⟨gR,aS,h⟩
   ·obtain rfl:=si h
    exact pv_q F68 (qa 55 aS<|qa 50 aM<|qb 45 aR<|qb 21 aK<|qb 15 aH<|qa 11 aB<|q0) [] [none,none]
   obtain ⟨cy,gS,h⟩:=kE h
   have cz:=lD gS
   obtain ⟨je,dA,h⟩:=kE h
   rcases cn h with ⟨bL,gT,h⟩ | ⟨bL,gT,h⟩
   rotate_left
   ·have gU:=by have q:=pC cy (GBox.mk (-1048576) (-1048576) 1048576 1048576) aA.At _ dA; rw [bL] at q; exact q
    have gV : evF PP T n 0 89 [(.agg [(iv aA.At.X),(iv aA.At.Y)]),(.ptr 2 1 0 0)] (hp16 aA)=some (bt,(hp17 aA)):=by
     rw [cz]; exact kT F89 (qa 6 gU<|q0) [] []
    obtain rfl:=si h
    exact pv_q F68 (qc 61 gV<|qa 55 aS<|qa 50 aM<|qb 45 aR<|qb 21 aK<|qb 15 aH<|qa 11 aB<|q0) [] [none,none]
   have gW:=by have q:=pC cy (GBox.mk (-1048576) (-1048576) 1048576 1048576) aA.At _ dA; rw [bL] at q; exact q
   have ab : evF PP T n 0 89 [(.agg [(iv aA.At.X),(iv aA.At.Y)]),(.ptr 2 1 0 0)] (hp16 aA)=some (bf,(hp17 aA)):=by
    rw [cz]; exact kT F89 (qa 6 gW<|q0) [] []
   obtain ⟨dB,gX,h⟩:=kE h
   have bM:=lD gX
   obtain ⟨ag,gY,h⟩:=kE h
   have dC:=lD gY
   have dD:=kP (P:=PP) (cf:=evF PP T ag) (fl:=0) (H:=(hp17 aA)) (f:=false) (c:=kI) (l:=aA.Via)
   have dE : kV false 0 4 [(.blk 10 [(kD aA)]),(.blk 1 [[(.fn 88 [])]]),(.blk 4 [[(iv (-1048576)),(iv (-1048576)),(iv 1048576),(iv 1048576)]]),(.blk 2 [[(iv aA.At.X),(iv aA.At.Y)]])]:=trivial
   rcases kQ h with ⟨dF,bN,h⟩ | ⟨jf,bN,h⟩
   rotate_left
   ·have bO:=lZ ag aA ag 0 _ bN
    have gZ : evF PP T dB 0 117 [(.sl false (List.map kI aA.Via)),(.fn 89 [(.ptr 2 1 0 0)])] (hp17 aA)=some ((iv (-1)),(hp17 aA)):=by
     rw [dC]; exact kT F117 (qp bO<|qp dE<|qb 7 dD<|q0) [((.exit 0),mT aA)] []
    have bP : evF PP T n 0 90 [(.sl false (List.map kI aA.Via)),(.fn 89 [(.ptr 2 1 0 0)])] (hp17 aA)=some (bf,(hp17 aA)):=by
     rw [bM]; exact kT F90 (qb 7 gZ<|q0) [] []
    obtain ⟨dG,ga,h⟩:=kE h
    have bQ:=lD ga
    obtain ⟨ah,gb,h⟩:=kE h
    have dH:=lD gb
    have dI:=kP (P:=PP) (cf:=evF PP T ah) (fl:=0) (H:=(hp17 aA)) (f:=false) (c:=kL) (l:=aA.Parts)
    have dJ : kV false 0 4 [(.blk 10 [(kD aA)]),(.blk 1 [[(.fn 88 [])]]),(.blk 4 [[(iv (-1048576)),(iv (-1048576)),(iv 1048576),(iv 1048576)]]),(.blk 2 [[(iv aA.At.X),(iv aA.At.Y)]])]:=trivial
    rcases kQ h with ⟨dK,bR,h⟩ | ⟨jg,bR,h⟩
    rotate_left
    ·have bS:=kZ ah aA ah 0 _ bR
     have gc : evF PP T dG 0 118 [(.sl false (List.map kL aA.Parts)),(.fn 91 [(.ptr 1 1 0 0)])] (hp17 aA)=some ((iv (-1)),(hp17 aA)):=by
      rw [dH]; exact kT F118 (qp bS<|qp dJ<|qb 7 dI<|q0) [((.exit 0),lU aA)] []
     have gd : evF PP T n 0 92 [(.sl false (List.map kL aA.Parts)),(.fn 91 [(.ptr 1 1 0 0)])] (hp17 aA)=some (bf,(hp17 aA)):=by
      rw [bQ]; exact kT F92 (qb 7 gc<|q0) [] []
     obtain rfl:=si h
     exact pv_q F68 (qb 72 gd<|qb 67 bP<|qc 61 ab<|qa 55 aS<|qa 50 aM<|qb 45 aR<|qb 21 aK<|qb 15 aH<|qa 11 aB<|q0) [] [none,none]
    have bS:=kZ ah aA ah 0 _ bR
    have dL : evF PP T dG 0 118 [(.sl false (List.map kL aA.Parts)),(.fn 91 [(.ptr 1 1 0 0)])] (hp17 aA)=some ((iv dK),(hp17 aA)):=by
     rw [dH]; exact kT F118 (qp bS<|qp dJ<|qb 7 dI<|q0) [(.ret,lO aA dK)] []
    rcases cn h with ⟨ge,bT,h⟩ | ⟨ge,bT,h⟩
    ·have gf : evF PP T n 0 92 [(.sl false (List.map kL aA.Parts)),(.fn 91 [(.ptr 1 1 0 0)])] (hp17 aA)=some (bt,(hp17 aA)):=by
      rw [bQ]; exact kT F92 (qa 8 bT<|qb 7 dL<|q0) [] []
     obtain rfl:=si h
     exact pv_q F68 (qb 72 gf<|qb 67 bP<|qc 61 ab<|qa 55 aS<|qa 50 aM<|qb 45 aR<|qb 21 aK<|qb 15 aH<|qa 11 aB<|q0) [] [none,none]
    have gg : evF PP T n 0 92 [(.sl false (List.map kL aA.Parts)),(.fn 91 [(.ptr 1 1 0 0)])] (hp17 aA)=some (bf,(hp17 aA)):=by
     rw [bQ]; exact kT F92 (qa 8 bT<|qb 7 dL<|q0) [] []
    obtain rfl:=si h
    exact pv_q F68 (qb 72 gg<|qb 67 bP<|qc 61 ab<|qa 55 aS<|qa 50 aM<|qb 45 aR<|qb 21 aK<|qb 15 aH<|qa 11 aB<|q0) [] [none,none]
   have bO:=lZ ag aA ag 0 _ bN
   have dM : evF PP T dB 0 117 [(.sl false (List.map kI aA.Via)),(.fn 89 [(.ptr 2 1 0 0)])] (hp17 aA)=some ((iv dF),(hp17 aA)):=by
    rw [dC]; exact kT F117 (qp bO<|qp dE<|qb 7 dD<|q0) [(.ret,mU aA dF)] []
   rcases cn h with ⟨gh,bU,h⟩ | ⟨gh,bU,h⟩
   ·have gi : evF PP T n 0 90 [(.sl false (List.map kI aA.Via)),(.fn 89 [(.ptr 2 1 0 0)])] (hp17 aA)=some (bt,(hp17 aA)):=by
     rw [bM]; exact kT F90 (qa 8 bU<|qb 7 dM<|q0) [] []
    obtain rfl:=si h
    exact pv_q F68 (qb 67 gi<|qc 61 ab<|qa 55 aS<|qa 50 aM<|qb 45 aR<|qb 21 aK<|qb 15 aH<|qa 11 aB<|q0) [] [none,none]
   have bV : evF PP T n 0 90 [(.sl false (List.map kI aA.Via)),(.fn 89 [(.ptr 2 1 0 0)])] (hp17 aA)=some (bf,(hp17 aA)):=by
    rw [bM]; exact kT F90 (qa 8 bU<|qb 7 dM<|q0) [] []
   obtain ⟨dN,gj,h⟩:=kE h
   have bW:=lD gj
   obtain ⟨ai,gk,h⟩:=kE h
   have dO:=lD gk
   have dP:=kP (P:=PP) (cf:=evF PP T ai) (fl:=0) (H:=(hp17 aA)) (f:=false) (c:=kL) (l:=aA.Parts)
   have dQ : kV false 0 4 [(.blk 10 [(kD aA)]),(.blk 1 [[(.fn 88 [])]]),(.blk 4 [[(iv (-1048576)),(iv (-1048576)),(iv 1048576),(iv 1048576)]]),(.blk 2 [[(iv aA.At.X),(iv aA.At.Y)]])]:=trivial
   rcases kQ h with ⟨dR,bX,h⟩ | ⟨jh,bX,h⟩
   rotate_left
   ·have bY:=kZ ai aA ai 0 _ bX
    have gl : evF PP T dN 0 118 [(.sl false (List.map kL aA.Parts)),(.fn 91 [(.ptr 1 1 0 0)])] (hp17 aA)=some ((iv (-1)),(hp17 aA)):=by
     rw [dO]; exact kT F118 (qp bY<|qp dQ<|qb 7 dP<|q0) [((.exit 0),lU aA)] []
    have gm : evF PP T n 0 92 [(.sl false (List.map kL aA.Parts)),(.fn 91 [(.ptr 1 1 0 0)])] (hp17 aA)=some (bf,(hp17 aA)):=by
     rw [bW]; exact kT F92 (qb 7 gl<|q0) [] []
    obtain rfl:=si h
    exact pv_q F68 (qb 72 gm<|qb 67 bV<|qc 61 ab<|qa 55 aS<|qa 50 aM<|qb 45 aR<|qb 21 aK<|qb 15 aH<|qa 11 aB<|q0) [] [none,none]
   have bY:=kZ ai aA ai 0 _ bX
   have dS : evF PP T dN 0 118 [(.sl false (List.map kL aA.Parts)),(.fn 91 [(.ptr 1 1 0 0)])] (hp17 aA)=some ((iv dR),(hp17 aA)):=by
    rw [dO]; exact kT F118 (qp bY<|qp dQ<|qb 7 dP<|q0) [(.ret,lO aA dR)] []
   rcases cn h with ⟨gn,bZ,h⟩ | ⟨gn,bZ,h⟩
   ·have go : evF PP T n 0 92 [(.sl false (List.map kL aA.Parts)),(.fn 91 [(.ptr 1 1 0 0)])] (hp17 aA)=some (bt,(hp17 aA)):=by
     rw [bW]; exact kT F92 (qa 8 bZ<|qb 7 dS<|q0) [] []
    obtain rfl:=si h
    exact pv_q F68 (qb 72 go<|qb 67 bV<|qc 61 ab<|qa 55 aS<|qa 50 aM<|qb 45 aR<|qb 21 aK<|qb 15 aH<|qa 11 aB<|q0) [] [none,none]
   have gp : evF PP T n 0 92 [(.sl false (List.map kL aA.Parts)),(.fn 91 [(.ptr 1 1 0 0)])] (hp17 aA)=some (bf,(hp17 aA)):=by
    rw [bW]; exact kT F92 (qa 8 bZ<|qb 7 dS<|q0) [] []
   obtain rfl:=si h
   exact pv_q F68 (qb 72 gp<|qb 67 bV<|qc 61 ab<|qa 55 aS<|qa 50 aM<|qb 45 aR<|qb 21 aK<|qb 15 aH<|qa 11 aB<|q0) [] [none,none]
  rcases cn h with ⟨gq,aC,h⟩ | ⟨gq,aC,h⟩
  ·obtain ⟨ji,gr,h⟩:=kE h
   have ba:=lD gr
   rcases cn h with ⟨gs,bA,h⟩ | ⟨gs,bA,h⟩
   rotate_left
   ·have gt : evF PP T n 0 88 [(iv aA.A)] (hp16 aA)=some (bf,(hp16 aA)):=by
     rw [ba]; exact kT F88 (qa 4 bA<|q0) [] []
    obtain rfl:=si h
    exact pv_q F68 (qb 29 gt<|qa 25 aC<|qa 11 aB<|q0) [] [none,none]
   rcases cn h with ⟨gu,bb,h⟩ | ⟨gu,bb,h⟩
   rotate_left
   ·have gv : evF PP T n 0 88 [(iv aA.A)] (hp16 aA)=some (bf,(hp16 aA)):=by
     rw [ba]; exact kT F88 (qa 7 bb<|qa 4 bA<|q0) [] []
    obtain rfl:=si h
    exact pv_q F68 (qb 29 gv<|qa 25 aC<|qa 11 aB<|q0) [] [none,none]
   have aL : evF PP T n 0 88 [(iv aA.A)] (hp16 aA)=some (bt,(hp16 aA)):=by
    rw [ba]; exact kT F88 (qa 7 bb<|qa 4 bA<|q0) [] []
   obtain ⟨jj,gw,h⟩:=kE h
   have bc:=lD gw
   rcases cn h with ⟨gx,bB,h⟩ | ⟨gx,bB,h⟩
   rotate_left
   ·have gy : evF PP T n 0 88 [(iv aA.ID)] (hp16 aA)=some (bf,(hp16 aA)):=by
     rw [bc]; exact kT F88 (qa 4 bB<|q0) [] []
    obtain rfl:=si h
    exact pv_q F68 (qb 45 gy<|qb 29 aL<|qa 25 aC<|qa 11 aB<|q0) [] [none,none]
   rcases cn h with ⟨gz,bd,h⟩ | ⟨gz,bd,h⟩
   rotate_left
   ·have hA : evF PP T n 0 88 [(iv aA.ID)] (hp16 aA)=some (bf,(hp16 aA)):=by
     rw [bc]; exact kT F88 (qa 7 bd<|qa 4 bB<|q0) [] []
    obtain rfl:=si h
    exact pv_q F68 (qb 45 hA<|qb 29 aL<|qa 25 aC<|qa 11 aB<|q0) [] [none,none]
   have aT : evF PP T n 0 88 [(iv aA.ID)] (hp16 aA)=some (bt,(hp16 aA)):=by
    rw [bc]; exact kT F88 (qa 7 bd<|qa 4 bB<|q0) [] []
   rcases cn h with ⟨hB,aN,h⟩ | ⟨hB,aN,h⟩
   ·obtain rfl:=si h
    exact pv_q F68 (qa 50 aN<|qb 45 aT<|qb 29 aL<|qa 25 aC<|qa 11 aB<|q0) [] [none,none]
   rcases cn h with ⟨hC,aU,h⟩ | ⟨hC,aU,h⟩
   ·obtain rfl:=si h
    exact pv_q F68 (qa 55 aU<|qa 50 aN<|qb 45 aT<|qb 29 aL<|qa 25 aC<|qa 11 aB<|q0) [] [none,none]
   obtain ⟨dT,hD,h⟩:=kE h
   have dU:=lD hD
   obtain ⟨jk,dV,h⟩:=kE h
   rcases cn h with ⟨be,hE,h⟩ | ⟨be,hE,h⟩
   rotate_left
   ·have hF:=by have q:=pC dT (GBox.mk (-1048576) (-1048576) 1048576 1048576) aA.At _ dV; rw [be] at q; exact q
    have hG : evF PP T n 0 89 [(.agg [(iv aA.At.X),(iv aA.At.Y)]),(.ptr 2 1 0 0)] (hp16 aA)=some (bt,(hp17 aA)):=by
     rw [dU]; exact kT F89 (qa 6 hF<|q0) [] []
    obtain rfl:=si h
    exact pv_q F68 (qc 61 hG<|qa 55 aU<|qa 50 aN<|qb 45 aT<|qb 29 aL<|qa 25 aC<|qa 11 aB<|q0) [] [none,none]
   have hH:=by have q:=pC dT (GBox.mk (-1048576) (-1048576) 1048576 1048576) aA.At _ dV; rw [be] at q; exact q
   have ac : evF PP T n 0 89 [(.agg [(iv aA.At.X),(iv aA.At.Y)]),(.ptr 2 1 0 0)] (hp16 aA)=some (bf,(hp17 aA)):=by
    rw [dU]; exact kT F89 (qa 6 hH<|q0) [] []
   obtain ⟨dW,hI,h⟩:=kE h
   have bg:=lD hI
   obtain ⟨aj,hJ,h⟩:=kE h
   have dX:=lD hJ
   have dY:=kP (P:=PP) (cf:=evF PP T aj) (fl:=0) (H:=(hp17 aA)) (f:=false) (c:=kI) (l:=aA.Via)
   have dZ : kV false 0 4 [(.blk 10 [(kD aA)]),(.blk 1 [[(.fn 88 [])]]),(.blk 4 [[(iv (-1048576)),(iv (-1048576)),(iv 1048576),(iv 1048576)]]),(.blk 2 [[(iv aA.At.X),(iv aA.At.Y)]])]:=trivial
   rcases kQ h with ⟨da,bh,h⟩ | ⟨jl,bh,h⟩
   rotate_left
   ·have bi:=lZ aj aA aj 0 _ bh
    have hK : evF PP T dW 0 117 [(.sl false (List.map kI aA.Via)),(.fn 89 [(.ptr 2 1 0 0)])] (hp17 aA)=some ((iv (-1)),(hp17 aA)):=by
     rw [dX]; exact kT F117 (qp bi<|qp dZ<|qb 7 dY<|q0) [((.exit 0),mT aA)] []
    have bj : evF PP T n 0 90 [(.sl false (List.map kI aA.Via)),(.fn 89 [(.ptr 2 1 0 0)])] (hp17 aA)=some (bf,(hp17 aA)):=by
     rw [bg]; exact kT F90 (qb 7 hK<|q0) [] []
    obtain ⟨db,hL,h⟩:=kE h
    have bk:=lD hL
    obtain ⟨ak,hM,h⟩:=kE h
    have dc:=lD hM
    have dd:=kP (P:=PP) (cf:=evF PP T ak) (fl:=0) (H:=(hp17 aA)) (f:=false) (c:=kL) (l:=aA.Parts)
    have de : kV false 0 4 [(.blk 10 [(kD aA)]),(.blk 1 [[(.fn 88 [])]]),(.blk 4 [[(iv (-1048576)),(iv (-1048576)),(iv 1048576),(iv 1048576)]]),(.blk 2 [[(iv aA.At.X),(iv aA.At.Y)]])]:=trivial
    rcases kQ h with ⟨df,bl,h⟩ | ⟨jm,bl,h⟩
    rotate_left
    ·have bm:=kZ ak aA ak 0 _ bl
     have hN : evF PP T db 0 118 [(.sl false (List.map kL aA.Parts)),(.fn 91 [(.ptr 1 1 0 0)])] (hp17 aA)=some ((iv (-1)),(hp17 aA)):=by
      rw [dc]; exact kT F118 (qp bm<|qp de<|qb 7 dd<|q0) [((.exit 0),lU aA)] []
     have hO : evF PP T n 0 92 [(.sl false (List.map kL aA.Parts)),(.fn 91 [(.ptr 1 1 0 0)])] (hp17 aA)=some (bf,(hp17 aA)):=by
      rw [bk]; exact kT F92 (qb 7 hN<|q0) [] []
     obtain rfl:=si h
     exact pv_q F68 (qb 72 hO<|qb 67 bj<|qc 61 ac<|qa 55 aU<|qa 50 aN<|qb 45 aT<|qb 29 aL<|qa 25 aC<|qa 11 aB<|q0) [] [none,none]
    have bm:=kZ ak aA ak 0 _ bl
    have dg : evF PP T db 0 118 [(.sl false (List.map kL aA.Parts)),(.fn 91 [(.ptr 1 1 0 0)])] (hp17 aA)=some ((iv df),(hp17 aA)):=by
     rw [dc]; exact kT F118 (qp bm<|qp de<|qb 7 dd<|q0) [(.ret,lO aA df)] []
    rcases cn h with ⟨hP,bn,h⟩ | ⟨hP,bn,h⟩
    ·have hQ : evF PP T n 0 92 [(.sl false (List.map kL aA.Parts)),(.fn 91 [(.ptr 1 1 0 0)])] (hp17 aA)=some (bt,(hp17 aA)):=by
      rw [bk]; exact kT F92 (qa 8 bn<|qb 7 dg<|q0) [] []
     obtain rfl:=si h
     exact pv_q F68 (qb 72 hQ<|qb 67 bj<|qc 61 ac<|qa 55 aU<|qa 50 aN<|qb 45 aT<|qb 29 aL<|qa 25 aC<|qa 11 aB<|q0) [] [none,none]
    have hR : evF PP T n 0 92 [(.sl false (List.map kL aA.Parts)),(.fn 91 [(.ptr 1 1 0 0)])] (hp17 aA)=some (bf,(hp17 aA)):=by
     rw [bk]; exact kT F92 (qa 8 bn<|qb 7 dg<|q0) [] []
    obtain rfl:=si h
    exact pv_q F68 (qb 72 hR<|qb 67 bj<|qc 61 ac<|qa 55 aU<|qa 50 aN<|qb 45 aT<|qb 29 aL<|qa 25 aC<|qa 11 aB<|q0) [] [none,none]
   have bi:=lZ aj aA aj 0 _ bh
   have dh : evF PP T dW 0 117 [(.sl false (List.map kI aA.Via)),(.fn 89 [(.ptr 2 1 0 0)])] (hp17 aA)=some ((iv da),(hp17 aA)):=by
    rw [dX]; exact kT F117 (qp bi<|qp dZ<|qb 7 dY<|q0) [(.ret,mU aA da)] []
   rcases cn h with ⟨hS,bo,h⟩ | ⟨hS,bo,h⟩
   ·have hT : evF PP T n 0 90 [(.sl false (List.map kI aA.Via)),(.fn 89 [(.ptr 2 1 0 0)])] (hp17 aA)=some (bt,(hp17 aA)):=by
     rw [bg]; exact kT F90 (qa 8 bo<|qb 7 dh<|q0) [] []
    obtain rfl:=si h
    exact pv_q F68 (qb 67 hT<|qc 61 ac<|qa 55 aU<|qa 50 aN<|qb 45 aT<|qb 29 aL<|qa 25 aC<|qa 11 aB<|q0) [] [none,none]
   have bp : evF PP T n 0 90 [(.sl false (List.map kI aA.Via)),(.fn 89 [(.ptr 2 1 0 0)])] (hp17 aA)=some (bf,(hp17 aA)):=by
    rw [bg]; exact kT F90 (qa 8 bo<|qb 7 dh<|q0) [] []
   obtain ⟨di,hU,h⟩:=kE h
   have bq:=lD hU
   obtain ⟨al,hV,h⟩:=kE h
   have dj:=lD hV
   have dk:=kP (P:=PP) (cf:=evF PP T al) (fl:=0) (H:=(hp17 aA)) (f:=false) (c:=kL) (l:=aA.Parts)
   have dl : kV false 0 4 [(.blk 10 [(kD aA)]),(.blk 1 [[(.fn 88 [])]]),(.blk 4 [[(iv (-1048576)),(iv (-1048576)),(iv 1048576),(iv 1048576)]]),(.blk 2 [[(iv aA.At.X),(iv aA.At.Y)]])]:=trivial
   rcases kQ h with ⟨dm,br,h⟩ | ⟨jn,br,h⟩
   rotate_left
   ·have bs:=kZ al aA al 0 _ br
    have hW : evF PP T di 0 118 [(.sl false (List.map kL aA.Parts)),(.fn 91 [(.ptr 1 1 0 0)])] (hp17 aA)=some ((iv (-1)),(hp17 aA)):=by
     rw [dj]; exact kT F118 (qp bs<|qp dl<|qb 7 dk<|q0) [((.exit 0),lU aA)] []
    have hX : evF PP T n 0 92 [(.sl false (List.map kL aA.Parts)),(.fn 91 [(.ptr 1 1 0 0)])] (hp17 aA)=some (bf,(hp17 aA)):=by
     rw [bq]; exact kT F92 (qb 7 hW<|q0) [] []
    obtain rfl:=si h
    exact pv_q F68 (qb 72 hX<|qb 67 bp<|qc 61 ac<|qa 55 aU<|qa 50 aN<|qb 45 aT<|qb 29 aL<|qa 25 aC<|qa 11 aB<|q0) [] [none,none]
   have bs:=kZ al aA al 0 _ br
   have dn : evF PP T di 0 118 [(.sl false (List.map kL aA.Parts)),(.fn 91 [(.ptr 1 1 0 0)])] (hp17 aA)=some ((iv dm),(hp17 aA)):=by
    rw [dj]; exact kT F118 (qp bs<|qp dl<|qb 7 dk<|q0) [(.ret,lO aA dm)] []
   rcases cn h with ⟨hY,bu,h⟩ | ⟨hY,bu,h⟩
   ·have hZ : evF PP T n 0 92 [(.sl false (List.map kL aA.Parts)),(.fn 91 [(.ptr 1 1 0 0)])] (hp17 aA)=some (bt,(hp17 aA)):=by
     rw [bq]; exact kT F92 (qa 8 bu<|qb 7 dn<|q0) [] []
    obtain rfl:=si h
    exact pv_q F68 (qb 72 hZ<|qb 67 bp<|qc 61 ac<|qa 55 aU<|qa 50 aN<|qb 45 aT<|qb 29 aL<|qa 25 aC<|qa 11 aB<|q0) [] [none,none]
   have ha : evF PP T n 0 92 [(.sl false (List.map kL aA.Parts)),(.fn 91 [(.ptr 1 1 0 0)])] (hp17 aA)=some (bf,(hp17 aA)):=by
    rw [bq]; exact kT F92 (qa 8 bu<|qb 7 dn<|q0) [] []
   obtain rfl:=si h
   exact pv_q F68 (qb 72 ha<|qb 67 bp<|qc 61 ac<|qa 55 aU<|qa 50 aN<|qb 45 aT<|qb 29 aL<|qa 25 aC<|qa 11 aB<|q0) [] [none,none]
  rcases cn h with ⟨hb,aD,h⟩ | ⟨hb,aD,h⟩
  ·rcases cn h with ⟨hc,aF,h⟩ | ⟨hc,aF,h⟩
   ·obtain rfl:=si h
    exact pv_q F68 (qa 36 aF<|qa 32 aD<|qa 25 aC<|qa 11 aB<|q0) [] [none,none]
   rcases cn h with ⟨hd,aI,h⟩ | ⟨hd,aI,h⟩
   ·obtain rfl:=si h
    exact pv_q F68 (qa 40 aI<|qa 36 aF<|qa 32 aD<|qa 25 aC<|qa 11 aB<|q0) [] [none,none]
   obtain ⟨jo,he,h⟩:=kE h
   have bw:=lD he
   rcases cn h with ⟨hf,bC,h⟩ | ⟨hf,bC,h⟩
   rotate_left
   ·have hg : evF PP T n 0 88 [(iv aA.ID)] (hp16 aA)=some (bf,(hp16 aA)):=by
     rw [bw]; exact kT F88 (qa 4 bC<|q0) [] []
    obtain rfl:=si h
    exact pv_q F68 (qb 45 hg<|qa 40 aI<|qa 36 aF<|qa 32 aD<|qa 25 aC<|qa 11 aB<|q0) [] [none,none]
   rcases cn h with ⟨hh,bx,h⟩ | ⟨hh,bx,h⟩
   rotate_left
   ·have hi : evF PP T n 0 88 [(iv aA.ID)] (hp16 aA)=some (bf,(hp16 aA)):=by
     rw [bw]; exact kT F88 (qa 7 bx<|qa 4 bC<|q0) [] []
    obtain rfl:=si h
    exact pv_q F68 (qb 45 hi<|qa 40 aI<|qa 36 aF<|qa 32 aD<|qa 25 aC<|qa 11 aB<|q0) [] [none,none]
   have aV : evF PP T n 0 88 [(iv aA.ID)] (hp16 aA)=some (bt,(hp16 aA)):=by
    rw [bw]; exact kT F88 (qa 7 bx<|qa 4 bC<|q0) [] []
   rcases cn h with ⟨hj,aO,h⟩ | ⟨hj,aO,h⟩
   ·obtain rfl:=si h
    exact pv_q F68 (qa 50 aO<|qb 45 aV<|qa 40 aI<|qa 36 aF<|qa 32 aD<|qa 25 aC<|qa 11 aB<|q0) [] [none,none]
   rcases cn h with ⟨hk,aW,h⟩ | ⟨hk,aW,h⟩
   ·obtain rfl:=si h
    exact pv_q F68 (qa 55 aW<|qa 50 aO<|qb 45 aV<|qa 40 aI<|qa 36 aF<|qa 32 aD<|qa 25 aC<|qa 11 aB<|q0) [] [none,none]
   obtain ⟨dp,hl,h⟩:=kE h
   have dq:=lD hl
   obtain ⟨jp,dr,h⟩:=kE h
   rcases cn h with ⟨bz,hm,h⟩ | ⟨bz,hm,h⟩
   rotate_left
   ·have hn:=by have q:=pC dp (GBox.mk (-1048576) (-1048576) 1048576 1048576) aA.At _ dr; rw [bz] at q; exact q
    have ho : evF PP T n 0 89 [(.agg [(iv aA.At.X),(iv aA.At.Y)]),(.ptr 2 1 0 0)] (hp16 aA)=some (bt,(hp17 aA)):=by
     rw [dq]; exact kT F89 (qa 6 hn<|q0) [] []
    obtain rfl:=si h
    exact pv_q F68 (qc 61 ho<|qa 55 aW<|qa 50 aO<|qb 45 aV<|qa 40 aI<|qa 36 aF<|qa 32 aD<|qa 25 aC<|qa 11 aB<|q0) [] [none,none]
   have hp:=by have q:=pC dp (GBox.mk (-1048576) (-1048576) 1048576 1048576) aA.At _ dr; rw [bz] at q; exact q
   have ad : evF PP T n 0 89 [(.agg [(iv aA.At.X),(iv aA.At.Y)]),(.ptr 2 1 0 0)] (hp16 aA)=some (bf,(hp17 aA)):=by
    rw [dq]; exact kT F89 (qa 6 hp<|q0) [] []
   obtain ⟨ds,hq,h⟩:=kE h
   have cA:=lD hq
   obtain ⟨am,hr,h⟩:=kE h
   have dt:=lD hr
   have du:=kP (P:=PP) (cf:=evF PP T am) (fl:=0) (H:=(hp17 aA)) (f:=false) (c:=kI) (l:=aA.Via)
   have dv : kV false 0 4 [(.blk 10 [(kD aA)]),(.blk 1 [[(.fn 88 [])]]),(.blk 4 [[(iv (-1048576)),(iv (-1048576)),(iv 1048576),(iv 1048576)]]),(.blk 2 [[(iv aA.At.X),(iv aA.At.Y)]])]:=trivial
   rcases kQ h with ⟨dw,cB,h⟩ | ⟨jq,cB,h⟩
   rotate_left
   ·have cC:=lZ am aA am 0 _ cB
    have hs : evF PP T ds 0 117 [(.sl false (List.map kI aA.Via)),(.fn 89 [(.ptr 2 1 0 0)])] (hp17 aA)=some ((iv (-1)),(hp17 aA)):=by
     rw [dt]; exact kT F117 (qp cC<|qp dv<|qb 7 du<|q0) [((.exit 0),mT aA)] []
    have cD : evF PP T n 0 90 [(.sl false (List.map kI aA.Via)),(.fn 89 [(.ptr 2 1 0 0)])] (hp17 aA)=some (bf,(hp17 aA)):=by
     rw [cA]; exact kT F90 (qb 7 hs<|q0) [] []
    obtain ⟨dx,ht,h⟩:=kE h
    have cE:=lD ht
    obtain ⟨an,hu,h⟩:=kE h
    have dy:=lD hu
    have dz:=kP (P:=PP) (cf:=evF PP T an) (fl:=0) (H:=(hp17 aA)) (f:=false) (c:=kL) (l:=aA.Parts)
    have eA : kV false 0 4 [(.blk 10 [(kD aA)]),(.blk 1 [[(.fn 88 [])]]),(.blk 4 [[(iv (-1048576)),(iv (-1048576)),(iv 1048576),(iv 1048576)]]),(.blk 2 [[(iv aA.At.X),(iv aA.At.Y)]])]:=trivial
    rcases kQ h with ⟨eB,cF,h⟩ | ⟨jr,cF,h⟩
    rotate_left
    ·have cG:=kZ an aA an 0 _ cF
     have hv : evF PP T dx 0 118 [(.sl false (List.map kL aA.Parts)),(.fn 91 [(.ptr 1 1 0 0)])] (hp17 aA)=some ((iv (-1)),(hp17 aA)):=by
      rw [dy]; exact kT F118 (qp cG<|qp eA<|qb 7 dz<|q0) [((.exit 0),lU aA)] []
     have hw : evF PP T n 0 92 [(.sl false (List.map kL aA.Parts)),(.fn 91 [(.ptr 1 1 0 0)])] (hp17 aA)=some (bf,(hp17 aA)):=by
      rw [cE]; exact kT F92 (qb 7 hv<|q0) [] []
     obtain rfl:=si h
     exact pv_q F68 (qb 72 hw<|qb 67 cD<|qc 61 ad<|qa 55 aW<|qa 50 aO<|qb 45 aV<|qa 40 aI<|qa 36 aF<|qa 32 aD<|qa 25 aC<|qa 11 aB<|q0) [] [none,none]
    have cG:=kZ an aA an 0 _ cF
    have eC : evF PP T dx 0 118 [(.sl false (List.map kL aA.Parts)),(.fn 91 [(.ptr 1 1 0 0)])] (hp17 aA)=some ((iv eB),(hp17 aA)):=by
     rw [dy]; exact kT F118 (qp cG<|qp eA<|qb 7 dz<|q0) [(.ret,lO aA eB)] []
    rcases cn h with ⟨hx,cH,h⟩ | ⟨hx,cH,h⟩
    ·have hy : evF PP T n 0 92 [(.sl false (List.map kL aA.Parts)),(.fn 91 [(.ptr 1 1 0 0)])] (hp17 aA)=some (bt,(hp17 aA)):=by
      rw [cE]; exact kT F92 (qa 8 cH<|qb 7 eC<|q0) [] []
     obtain rfl:=si h
     exact pv_q F68 (qb 72 hy<|qb 67 cD<|qc 61 ad<|qa 55 aW<|qa 50 aO<|qb 45 aV<|qa 40 aI<|qa 36 aF<|qa 32 aD<|qa 25 aC<|qa 11 aB<|q0) [] [none,none]
    have hz : evF PP T n 0 92 [(.sl false (List.map kL aA.Parts)),(.fn 91 [(.ptr 1 1 0 0)])] (hp17 aA)=some (bf,(hp17 aA)):=by
     rw [cE]; exact kT F92 (qa 8 cH<|qb 7 eC<|q0) [] []
    obtain rfl:=si h
    exact pv_q F68 (qb 72 hz<|qb 67 cD<|qc 61 ad<|qa 55 aW<|qa 50 aO<|qb 45 aV<|qa 40 aI<|qa 36 aF<|qa 32 aD<|qa 25 aC<|qa 11 aB<|q0) [] [none,none]
   have cC:=lZ am aA am 0 _ cB
   have eD : evF PP T ds 0 117 [(.sl false (List.map kI aA.Via)),(.fn 89 [(.ptr 2 1 0 0)])] (hp17 aA)=some ((iv dw),(hp17 aA)):=by
    rw [dt]; exact kT F117 (qp cC<|qp dv<|qb 7 du<|q0) [(.ret,mU aA dw)] []
   rcases cn h with ⟨iA,cI,h⟩ | ⟨iA,cI,h⟩
   ·have iB : evF PP T n 0 90 [(.sl false (List.map kI aA.Via)),(.fn 89 [(.ptr 2 1 0 0)])] (hp17 aA)=some (bt,(hp17 aA)):=by
     rw [cA]; exact kT F90 (qa 8 cI<|qb 7 eD<|q0) [] []
    obtain rfl:=si h
    exact pv_q F68 (qb 67 iB<|qc 61 ad<|qa 55 aW<|qa 50 aO<|qb 45 aV<|qa 40 aI<|qa 36 aF<|qa 32 aD<|qa 25 aC<|qa 11 aB<|q0) [] [none,none]
   have cJ : evF PP T n 0 90 [(.sl false (List.map kI aA.Via)),(.fn 89 [(.ptr 2 1 0 0)])] (hp17 aA)=some (bf,(hp17 aA)):=by
    rw [cA]; exact kT F90 (qa 8 cI<|qb 7 eD<|q0) [] []
   obtain ⟨eE,iC,h⟩:=kE h
   have cK:=lD iC
   obtain ⟨ao,iD,h⟩:=kE h
   have eF:=lD iD
   have eG:=kP (P:=PP) (cf:=evF PP T ao) (fl:=0) (H:=(hp17 aA)) (f:=false) (c:=kL) (l:=aA.Parts)
   have eH : kV false 0 4 [(.blk 10 [(kD aA)]),(.blk 1 [[(.fn 88 [])]]),(.blk 4 [[(iv (-1048576)),(iv (-1048576)),(iv 1048576),(iv 1048576)]]),(.blk 2 [[(iv aA.At.X),(iv aA.At.Y)]])]:=trivial
   rcases kQ h with ⟨eI,cL,h⟩ | ⟨js,cL,h⟩
   rotate_left
   ·have cM:=kZ ao aA ao 0 _ cL
    have iE : evF PP T eE 0 118 [(.sl false (List.map kL aA.Parts)),(.fn 91 [(.ptr 1 1 0 0)])] (hp17 aA)=some ((iv (-1)),(hp17 aA)):=by
     rw [eF]; exact kT F118 (qp cM<|qp eH<|qb 7 eG<|q0) [((.exit 0),lU aA)] []
    have iF : evF PP T n 0 92 [(.sl false (List.map kL aA.Parts)),(.fn 91 [(.ptr 1 1 0 0)])] (hp17 aA)=some (bf,(hp17 aA)):=by
     rw [cK]; exact kT F92 (qb 7 iE<|q0) [] []
    obtain rfl:=si h
    exact pv_q F68 (qb 72 iF<|qb 67 cJ<|qc 61 ad<|qa 55 aW<|qa 50 aO<|qb 45 aV<|qa 40 aI<|qa 36 aF<|qa 32 aD<|qa 25 aC<|qa 11 aB<|q0) [] [none,none]
   have cM:=kZ ao aA ao 0 _ cL
   have eJ : evF PP T eE 0 118 [(.sl false (List.map kL aA.Parts)),(.fn 91 [(.ptr 1 1 0 0)])] (hp17 aA)=some ((iv eI),(hp17 aA)):=by
    rw [eF]; exact kT F118 (qp cM<|qp eH<|qb 7 eG<|q0) [(.ret,lO aA eI)] []
   rcases cn h with ⟨iG,cN,h⟩ | ⟨iG,cN,h⟩
   ·have iH : evF PP T n 0 92 [(.sl false (List.map kL aA.Parts)),(.fn 91 [(.ptr 1 1 0 0)])] (hp17 aA)=some (bt,(hp17 aA)):=by
     rw [cK]; exact kT F92 (qa 8 cN<|qb 7 eJ<|q0) [] []
    obtain rfl:=si h
    exact pv_q F68 (qb 72 iH<|qb 67 cJ<|qc 61 ad<|qa 55 aW<|qa 50 aO<|qb 45 aV<|qa 40 aI<|qa 36 aF<|qa 32 aD<|qa 25 aC<|qa 11 aB<|q0) [] [none,none]
   have iI : evF PP T n 0 92 [(.sl false (List.map kL aA.Parts)),(.fn 91 [(.ptr 1 1 0 0)])] (hp17 aA)=some (bf,(hp17 aA)):=by
    rw [cK]; exact kT F92 (qa 8 cN<|qb 7 eJ<|q0) [] []
   obtain rfl:=si h
   exact pv_q F68 (qb 72 iI<|qb 67 cJ<|qc 61 ad<|qa 55 aW<|qa 50 aO<|qb 45 aV<|qa 40 aI<|qa 36 aF<|qa 32 aD<|qa 25 aC<|qa 11 aB<|q0) [] [none,none]
  rcases cn h with ⟨iJ,aE,h⟩ | ⟨iJ,aE,h⟩
  rotate_left
  ·obtain ⟨jt,iK,h⟩:=kE h
   have cO:=lD iK
   rcases cn h with ⟨iL,bD,h⟩ | ⟨iL,bD,h⟩
   rotate_left
   ·have iM : evF PP T n 0 88 [(iv aA.ID)] (hp16 aA)=some (bf,(hp16 aA)):=by
     rw [cO]; exact kT F88 (qa 4 bD<|q0) [] []
    obtain rfl:=si h
    exact pv_q F68 (qb 45 iM<|qa 33 aE<|qa 32 aD<|qa 25 aC<|qa 11 aB<|q0) [] [none,none]
   rcases cn h with ⟨iN,cP,h⟩ | ⟨iN,cP,h⟩
   rotate_left
   ·have iO : evF PP T n 0 88 [(iv aA.ID)] (hp16 aA)=some (bf,(hp16 aA)):=by
     rw [cO]; exact kT F88 (qa 7 cP<|qa 4 bD<|q0) [] []
    obtain rfl:=si h
    exact pv_q F68 (qb 45 iO<|qa 33 aE<|qa 32 aD<|qa 25 aC<|qa 11 aB<|q0) [] [none,none]
   have aX : evF PP T n 0 88 [(iv aA.ID)] (hp16 aA)=some (bt,(hp16 aA)):=by
    rw [cO]; exact kT F88 (qa 7 cP<|qa 4 bD<|q0) [] []
   rcases cn h with ⟨iP,aP,h⟩ | ⟨iP,aP,h⟩
   ·obtain rfl:=si h
    exact pv_q F68 (qa 50 aP<|qb 45 aX<|qa 33 aE<|qa 32 aD<|qa 25 aC<|qa 11 aB<|q0) [] [none,none]
   rcases cn h with ⟨iQ,aY,h⟩ | ⟨iQ,aY,h⟩
   ·obtain rfl:=si h
    exact pv_q F68 (qa 55 aY<|qa 50 aP<|qb 45 aX<|qa 33 aE<|qa 32 aD<|qa 25 aC<|qa 11 aB<|q0) [] [none,none]
   obtain ⟨eK,iR,h⟩:=kE h
   have eL:=lD iR
   obtain ⟨ju,eM,h⟩:=kE h
   rcases cn h with ⟨cQ,iS,h⟩ | ⟨cQ,iS,h⟩
   rotate_left
   ·have iT:=by have q:=pC eK (GBox.mk (-1048576) (-1048576) 1048576 1048576) aA.At _ eM; rw [cQ] at q; exact q
    have iU : evF PP T n 0 89 [(.agg [(iv aA.At.X),(iv aA.At.Y)]),(.ptr 2 1 0 0)] (hp16 aA)=some (bt,(hp17 aA)):=by
     rw [eL]; exact kT F89 (qa 6 iT<|q0) [] []
    obtain rfl:=si h
    exact pv_q F68 (qc 61 iU<|qa 55 aY<|qa 50 aP<|qb 45 aX<|qa 33 aE<|qa 32 aD<|qa 25 aC<|qa 11 aB<|q0) [] [none,none]
   have iV:=by have q:=pC eK (GBox.mk (-1048576) (-1048576) 1048576 1048576) aA.At _ eM; rw [cQ] at q; exact q
   have ae : evF PP T n 0 89 [(.agg [(iv aA.At.X),(iv aA.At.Y)]),(.ptr 2 1 0 0)] (hp16 aA)=some (bf,(hp17 aA)):=by
    rw [eL]; exact kT F89 (qa 6 iV<|q0) [] []
   obtain ⟨eN,iW,h⟩:=kE h
   have cR:=lD iW
   obtain ⟨ap,iX,h⟩:=kE h
   have eO:=lD iX
   have eP:=kP (P:=PP) (cf:=evF PP T ap) (fl:=0) (H:=(hp17 aA)) (f:=false) (c:=kI) (l:=aA.Via)
   have eQ : kV false 0 4 [(.blk 10 [(kD aA)]),(.blk 1 [[(.fn 88 [])]]),(.blk 4 [[(iv (-1048576)),(iv (-1048576)),(iv 1048576),(iv 1048576)]]),(.blk 2 [[(iv aA.At.X),(iv aA.At.Y)]])]:=trivial
   rcases kQ h with ⟨eR,cS,h⟩ | ⟨jv,cS,h⟩
   rotate_left
   ·have cT:=lZ ap aA ap 0 _ cS
    have iY : evF PP T eN 0 117 [(.sl false (List.map kI aA.Via)),(.fn 89 [(.ptr 2 1 0 0)])] (hp17 aA)=some ((iv (-1)),(hp17 aA)):=by
     rw [eO]; exact kT F117 (qp cT<|qp eQ<|qb 7 eP<|q0) [((.exit 0),mT aA)] []
    have cU : evF PP T n 0 90 [(.sl false (List.map kI aA.Via)),(.fn 89 [(.ptr 2 1 0 0)])] (hp17 aA)=some (bf,(hp17 aA)):=by
     rw [cR]; exact kT F90 (qb 7 iY<|q0) [] []
    obtain ⟨eS,iZ,h⟩:=kE h
    have cV:=lD iZ
    obtain ⟨aq,ia,h⟩:=kE h
    have eT:=lD ia
    have eU:=kP (P:=PP) (cf:=evF PP T aq) (fl:=0) (H:=(hp17 aA)) (f:=false) (c:=kL) (l:=aA.Parts)
    have eV : kV false 0 4 [(.blk 10 [(kD aA)]),(.blk 1 [[(.fn 88 [])]]),(.blk 4 [[(iv (-1048576)),(iv (-1048576)),(iv 1048576),(iv 1048576)]]),(.blk 2 [[(iv aA.At.X),(iv aA.At.Y)]])]:=trivial
    rcases kQ h with ⟨eW,cW,h⟩ | ⟨jw,cW,h⟩
    rotate_left
    ·have cX:=kZ aq aA aq 0 _ cW
     have ib : evF PP T eS 0 118 [(.sl false (List.map kL aA.Parts)),(.fn 91 [(.ptr 1 1 0 0)])] (hp17 aA)=some ((iv (-1)),(hp17 aA)):=by
      rw [eT]; exact kT F118 (qp cX<|qp eV<|qb 7 eU<|q0) [((.exit 0),lU aA)] []
     have ic : evF PP T n 0 92 [(.sl false (List.map kL aA.Parts)),(.fn 91 [(.ptr 1 1 0 0)])] (hp17 aA)=some (bf,(hp17 aA)):=by
      rw [cV]; exact kT F92 (qb 7 ib<|q0) [] []
     obtain rfl:=si h
     exact pv_q F68 (qb 72 ic<|qb 67 cU<|qc 61 ae<|qa 55 aY<|qa 50 aP<|qb 45 aX<|qa 33 aE<|qa 32 aD<|qa 25 aC<|qa 11 aB<|q0) [] [none,none]
    have cX:=kZ aq aA aq 0 _ cW
    have eX : evF PP T eS 0 118 [(.sl false (List.map kL aA.Parts)),(.fn 91 [(.ptr 1 1 0 0)])] (hp17 aA)=some ((iv eW),(hp17 aA)):=by
     rw [eT]; exact kT F118 (qp cX<|qp eV<|qb 7 eU<|q0) [(.ret,lO aA eW)] []
    rcases cn h with ⟨ie,cY,h⟩ | ⟨ie,cY,h⟩
    ·have ig : evF PP T n 0 92 [(.sl false (List.map kL aA.Parts)),(.fn 91 [(.ptr 1 1 0 0)])] (hp17 aA)=some (bt,(hp17 aA)):=by
      rw [cV]; exact kT F92 (qa 8 cY<|qb 7 eX<|q0) [] []
     obtain rfl:=si h
     exact pv_q F68 (qb 72 ig<|qb 67 cU<|qc 61 ae<|qa 55 aY<|qa 50 aP<|qb 45 aX<|qa 33 aE<|qa 32 aD<|qa 25 aC<|qa 11 aB<|q0) [] [none,none]
    have ih : evF PP T n 0 92 [(.sl false (List.map kL aA.Parts)),(.fn 91 [(.ptr 1 1 0 0)])] (hp17 aA)=some (bf,(hp17 aA)):=by
     rw [cV]; exact kT F92 (qa 8 cY<|qb 7 eX<|q0) [] []
    obtain rfl:=si h
    exact pv_q F68 (qb 72 ih<|qb 67 cU<|qc 61 ae<|qa 55 aY<|qa 50 aP<|qb 45 aX<|qa 33 aE<|qa 32 aD<|qa 25 aC<|qa 11 aB<|q0) [] [none,none]
   have cT:=lZ ap aA ap 0 _ cS
   have eY : evF PP T eN 0 117 [(.sl false (List.map kI aA.Via)),(.fn 89 [(.ptr 2 1 0 0)])] (hp17 aA)=some ((iv eR),(hp17 aA)):=by
    rw [eO]; exact kT F117 (qp cT<|qp eQ<|qb 7 eP<|q0) [(.ret,mU aA eR)] []
   rcases cn h with ⟨ii,cZ,h⟩ | ⟨ii,cZ,h⟩
   ·have ij : evF PP T n 0 90 [(.sl false (List.map kI aA.Via)),(.fn 89 [(.ptr 2 1 0 0)])] (hp17 aA)=some (bt,(hp17 aA)):=by
     rw [cR]; exact kT F90 (qa 8 cZ<|qb 7 eY<|q0) [] []
    obtain rfl:=si h
    exact pv_q F68 (qb 67 ij<|qc 61 ae<|qa 55 aY<|qa 50 aP<|qb 45 aX<|qa 33 aE<|qa 32 aD<|qa 25 aC<|qa 11 aB<|q0) [] [none,none]
   have ca : evF PP T n 0 90 [(.sl false (List.map kI aA.Via)),(.fn 89 [(.ptr 2 1 0 0)])] (hp17 aA)=some (bf,(hp17 aA)):=by
    rw [cR]; exact kT F90 (qa 8 cZ<|qb 7 eY<|q0) [] []
   obtain ⟨eZ,ik,h⟩:=kE h
   have cb:=lD ik
   obtain ⟨ar,il,h⟩:=kE h
   have ea:=lD il
   have eb:=kP (P:=PP) (cf:=evF PP T ar) (fl:=0) (H:=(hp17 aA)) (f:=false) (c:=kL) (l:=aA.Parts)
   have ec : kV false 0 4 [(.blk 10 [(kD aA)]),(.blk 1 [[(.fn 88 [])]]),(.blk 4 [[(iv (-1048576)),(iv (-1048576)),(iv 1048576),(iv 1048576)]]),(.blk 2 [[(iv aA.At.X),(iv aA.At.Y)]])]:=trivial
   rcases kQ h with ⟨ed,cc,h⟩ | ⟨jx,cc,h⟩
   rotate_left
   ·have cd:=kZ ar aA ar 0 _ cc
    have im : evF PP T eZ 0 118 [(.sl false (List.map kL aA.Parts)),(.fn 91 [(.ptr 1 1 0 0)])] (hp17 aA)=some ((iv (-1)),(hp17 aA)):=by
     rw [ea]; exact kT F118 (qp cd<|qp ec<|qb 7 eb<|q0) [((.exit 0),lU aA)] []
    have io : evF PP T n 0 92 [(.sl false (List.map kL aA.Parts)),(.fn 91 [(.ptr 1 1 0 0)])] (hp17 aA)=some (bf,(hp17 aA)):=by
     rw [cb]; exact kT F92 (qb 7 im<|q0) [] []
    obtain rfl:=si h
    exact pv_q F68 (qb 72 io<|qb 67 ca<|qc 61 ae<|qa 55 aY<|qa 50 aP<|qb 45 aX<|qa 33 aE<|qa 32 aD<|qa 25 aC<|qa 11 aB<|q0) [] [none,none]
   have cd:=kZ ar aA ar 0 _ cc
   have ee : evF PP T eZ 0 118 [(.sl false (List.map kL aA.Parts)),(.fn 91 [(.ptr 1 1 0 0)])] (hp17 aA)=some ((iv ed),(hp17 aA)):=by
    rw [ea]; exact kT F118 (qp cd<|qp ec<|qb 7 eb<|q0) [(.ret,lO aA ed)] []
   rcases cn h with ⟨ip,ce,h⟩ | ⟨ip,ce,h⟩
   ·have iq : evF PP T n 0 92 [(.sl false (List.map kL aA.Parts)),(.fn 91 [(.ptr 1 1 0 0)])] (hp17 aA)=some (bt,(hp17 aA)):=by
     rw [cb]; exact kT F92 (qa 8 ce<|qb 7 ee<|q0) [] []
    obtain rfl:=si h
    exact pv_q F68 (qb 72 iq<|qb 67 ca<|qc 61 ae<|qa 55 aY<|qa 50 aP<|qb 45 aX<|qa 33 aE<|qa 32 aD<|qa 25 aC<|qa 11 aB<|q0) [] [none,none]
   have ir : evF PP T n 0 92 [(.sl false (List.map kL aA.Parts)),(.fn 91 [(.ptr 1 1 0 0)])] (hp17 aA)=some (bf,(hp17 aA)):=by
    rw [cb]; exact kT F92 (qa 8 ce<|qb 7 ee<|q0) [] []
   obtain rfl:=si h
   exact pv_q F68 (qb 72 ir<|qb 67 ca<|qc 61 ae<|qa 55 aY<|qa 50 aP<|qb 45 aX<|qa 33 aE<|qa 32 aD<|qa 25 aC<|qa 11 aB<|q0) [] [none,none]
  rcases cn h with ⟨it,aG,h⟩ | ⟨it,aG,h⟩
  ·obtain rfl:=si h
   exact pv_q F68 (qa 36 aG<|qa 33 aE<|qa 32 aD<|qa 25 aC<|qa 11 aB<|q0) [] [none,none]
  rcases cn h with ⟨iu,aJ,h⟩ | ⟨iu,aJ,h⟩
  ·obtain rfl:=si h
   exact pv_q F68 (qa 40 aJ<|qa 36 aG<|qa 33 aE<|qa 32 aD<|qa 25 aC<|qa 11 aB<|q0) [] [none,none]
  obtain ⟨jy,iw,h⟩:=kE h
  have cg:=lD iw
  rcases cn h with ⟨ix,bE,h⟩ | ⟨ix,bE,h⟩
  rotate_left
  ·have iy : evF PP T n 0 88 [(iv aA.ID)] (hp16 aA)=some (bf,(hp16 aA)):=by
    rw [cg]; exact kT F88 (qa 4 bE<|q0) [] []
   obtain rfl:=si h
   exact pv_q F68 (qb 45 iy<|qa 40 aJ<|qa 36 aG<|qa 33 aE<|qa 32 aD<|qa 25 aC<|qa 11 aB<|q0) [] [none,none]
  rcases cn h with ⟨iz,ch,h⟩ | ⟨iz,ch,h⟩
  rotate_left
  ·have jA : evF PP T n 0 88 [(iv aA.ID)] (hp16 aA)=some (bf,(hp16 aA)):=by
    rw [cg]; exact kT F88 (qa 7 ch<|qa 4 bE<|q0) [] []
   obtain rfl:=si h
   exact pv_q F68 (qb 45 jA<|qa 40 aJ<|qa 36 aG<|qa 33 aE<|qa 32 aD<|qa 25 aC<|qa 11 aB<|q0) [] [none,none]
  have aZ : evF PP T n 0 88 [(iv aA.ID)] (hp16 aA)=some (bt,(hp16 aA)):=by
   rw [cg]; exact kT F88 (qa 7 ch<|qa 4 bE<|q0) [] []
  rcases cn h with ⟨jB,aQ,h⟩ | ⟨jB,aQ,h⟩
  ·obtain rfl:=si h
   exact pv_q F68 (qa 50 aQ<|qb 45 aZ<|qa 40 aJ<|qa 36 aG<|qa 33 aE<|qa 32 aD<|qa 25 aC<|qa 11 aB<|q0) [] [none,none]
  rcases cn h with ⟨jC,aa,h⟩ | ⟨jC,aa,h⟩
  ·obtain rfl:=si h
   exact pv_q F68 (qa 55 aa<|qa 50 aQ<|qb 45 aZ<|qa 40 aJ<|qa 36 aG<|qa 33 aE<|qa 32 aD<|qa 25 aC<|qa 11 aB<|q0) [] [none,none]
  obtain ⟨ef,jD,h⟩:=kE h
  have eg:=lD jD
  obtain ⟨jz,eh,h⟩:=kE h
  rcases cn h with ⟨ci,jE,h⟩ | ⟨ci,jE,h⟩
  rotate_left
  ·have jF:=by have q:=pC ef (GBox.mk (-1048576) (-1048576) 1048576 1048576) aA.At _ eh; rw [ci] at q; exact q
   have jG : evF PP T n 0 89 [(.agg [(iv aA.At.X),(iv aA.At.Y)]),(.ptr 2 1 0 0)] (hp16 aA)=some (bt,(hp17 aA)):=by
    rw [eg]; exact kT F89 (qa 6 jF<|q0) [] []
   obtain rfl:=si h
   exact pv_q F68 (qc 61 jG<|qa 55 aa<|qa 50 aQ<|qb 45 aZ<|qa 40 aJ<|qa 36 aG<|qa 33 aE<|qa 32 aD<|qa 25 aC<|qa 11 aB<|q0) [] [none,none]
  have jH:=by have q:=pC ef (GBox.mk (-1048576) (-1048576) 1048576 1048576) aA.At _ eh; rw [ci] at q; exact q
  have af : evF PP T n 0 89 [(.agg [(iv aA.At.X),(iv aA.At.Y)]),(.ptr 2 1 0 0)] (hp16 aA)=some (bf,(hp17 aA)):=by
   rw [eg]; exact kT F89 (qa 6 jH<|q0) [] []
  obtain ⟨ei,jI,h⟩:=kE h
  have cj:=lD jI
  obtain ⟨au,jJ,h⟩:=kE h
  have ej:=lD jJ
  have ek:=kP (P:=PP) (cf:=evF PP T au) (fl:=0) (H:=(hp17 aA)) (f:=false) (c:=kI) (l:=aA.Via)
  have el : kV false 0 4 [(.blk 10 [(kD aA)]),(.blk 1 [[(.fn 88 [])]]),(.blk 4 [[(iv (-1048576)),(iv (-1048576)),(iv 1048576),(iv 1048576)]]),(.blk 2 [[(iv aA.At.X),(iv aA.At.Y)]])]:=trivial
  rcases kQ h with ⟨em,ck,h⟩ | ⟨kA,ck,h⟩
  rotate_left
  ·have cl:=lZ au aA au 0 _ ck
   have jK : evF PP T ei 0 117 [(.sl false (List.map kI aA.Via)),(.fn 89 [(.ptr 2 1 0 0)])] (hp17 aA)=some ((iv (-1)),(hp17 aA)):=by
    rw [ej]; exact kT F117 (qp cl<|qp el<|qb 7 ek<|q0) [((.exit 0),mT aA)] []
   have cm : evF PP T n 0 90 [(.sl false (List.map kI aA.Via)),(.fn 89 [(.ptr 2 1 0 0)])] (hp17 aA)=some (bf,(hp17 aA)):=by
    rw [cj]; exact kT F90 (qb 7 jK<|q0) [] []
   obtain ⟨en,jL,h⟩:=kE h
   have co:=lD jL
   obtain ⟨av,jM,h⟩:=kE h
   have eo:=lD jM
   have ep:=kP (P:=PP) (cf:=evF PP T av) (fl:=0) (H:=(hp17 aA)) (f:=false) (c:=kL) (l:=aA.Parts)
   have eq : kV false 0 4 [(.blk 10 [(kD aA)]),(.blk 1 [[(.fn 88 [])]]),(.blk 4 [[(iv (-1048576)),(iv (-1048576)),(iv 1048576),(iv 1048576)]]),(.blk 2 [[(iv aA.At.X),(iv aA.At.Y)]])]:=trivial
   rcases kQ h with ⟨er,cp,h⟩ | ⟨kB,cp,h⟩
   rotate_left
   ·have cq:=kZ av aA av 0 _ cp
    have jN : evF PP T en 0 118 [(.sl false (List.map kL aA.Parts)),(.fn 91 [(.ptr 1 1 0 0)])] (hp17 aA)=some ((iv (-1)),(hp17 aA)):=by
     rw [eo]; exact kT F118 (qp cq<|qp eq<|qb 7 ep<|q0) [((.exit 0),lU aA)] []
    have jO : evF PP T n 0 92 [(.sl false (List.map kL aA.Parts)),(.fn 91 [(.ptr 1 1 0 0)])] (hp17 aA)=some (bf,(hp17 aA)):=by
     rw [co]; exact kT F92 (qb 7 jN<|q0) [] []
    obtain rfl:=si h
    exact pv_q F68 (qb 72 jO<|qb 67 cm<|qc 61 af<|qa 55 aa<|qa 50 aQ<|qb 45 aZ<|qa 40 aJ<|qa 36 aG<|qa 33 aE<|qa 32 aD<|qa 25 aC<|qa 11 aB<|q0) [] [none,none]
   have cq:=kZ av aA av 0 _ cp
   have es : evF PP T en 0 118 [(.sl false (List.map kL aA.Parts)),(.fn 91 [(.ptr 1 1 0 0)])] (hp17 aA)=some ((iv er),(hp17 aA)):=by
    rw [eo]; exact kT F118 (qp cq<|qp eq<|qb 7 ep<|q0) [(.ret,lO aA er)] []
   rcases cn h with ⟨jP,cr,h⟩ | ⟨jP,cr,h⟩
   ·have jQ : evF PP T n 0 92 [(.sl false (List.map kL aA.Parts)),(.fn 91 [(.ptr 1 1 0 0)])] (hp17 aA)=some (bt,(hp17 aA)):=by
     rw [co]; exact kT F92 (qa 8 cr<|qb 7 es<|q0) [] []
    obtain rfl:=si h
    exact pv_q F68 (qb 72 jQ<|qb 67 cm<|qc 61 af<|qa 55 aa<|qa 50 aQ<|qb 45 aZ<|qa 40 aJ<|qa 36 aG<|qa 33 aE<|qa 32 aD<|qa 25 aC<|qa 11 aB<|q0) [] [none,none]
   have jR : evF PP T n 0 92 [(.sl false (List.map kL aA.Parts)),(.fn 91 [(.ptr 1 1 0 0)])] (hp17 aA)=some (bf,(hp17 aA)):=by
    rw [co]; exact kT F92 (qa 8 cr<|qb 7 es<|q0) [] []
   obtain rfl:=si h
   exact pv_q F68 (qb 72 jR<|qb 67 cm<|qc 61 af<|qa 55 aa<|qa 50 aQ<|qb 45 aZ<|qa 40 aJ<|qa 36 aG<|qa 33 aE<|qa 32 aD<|qa 25 aC<|qa 11 aB<|q0) [] [none,none]
  have cl:=lZ au aA au 0 _ ck
  have et : evF PP T ei 0 117 [(.sl false (List.map kI aA.Via)),(.fn 89 [(.ptr 2 1 0 0)])] (hp17 aA)=some ((iv em),(hp17 aA)):=by
   rw [ej]; exact kT F117 (qp cl<|qp el<|qb 7 ek<|q0) [(.ret,mU aA em)] []
  rcases cn h with ⟨jS,cs,h⟩ | ⟨jS,cs,h⟩
  ·have jT : evF PP T n 0 90 [(.sl false (List.map kI aA.Via)),(.fn 89 [(.ptr 2 1 0 0)])] (hp17 aA)=some (bt,(hp17 aA)):=by
    rw [cj]; exact kT F90 (qa 8 cs<|qb 7 et<|q0) [] []
   obtain rfl:=si h
   exact pv_q F68 (qb 67 jT<|qc 61 af<|qa 55 aa<|qa 50 aQ<|qb 45 aZ<|qa 40 aJ<|qa 36 aG<|qa 33 aE<|qa 32 aD<|qa 25 aC<|qa 11 aB<|q0) [] [none,none]
  have ct : evF PP T n 0 90 [(.sl false (List.map kI aA.Via)),(.fn 89 [(.ptr 2 1 0 0)])] (hp17 aA)=some (bf,(hp17 aA)):=by
   rw [cj]; exact kT F90 (qa 8 cs<|qb 7 et<|q0) [] []
  obtain ⟨eu,jU,h⟩:=kE h
  have cu:=lD jU
  obtain ⟨aw,jV,h⟩:=kE h
  have ev:=lD jV
  have ew:=kP (P:=PP) (cf:=evF PP T aw) (fl:=0) (H:=(hp17 aA)) (f:=false) (c:=kL) (l:=aA.Parts)
  have ex : kV false 0 4 [(.blk 10 [(kD aA)]),(.blk 1 [[(.fn 88 [])]]),(.blk 4 [[(iv (-1048576)),(iv (-1048576)),(iv 1048576),(iv 1048576)]]),(.blk 2 [[(iv aA.At.X),(iv aA.At.Y)]])]:=trivial
  rcases kQ h with ⟨ey,cv,h⟩ | ⟨kC,cv,h⟩
  rotate_left
  ·have cw:=kZ aw aA aw 0 _ cv
   have jW : evF PP T eu 0 118 [(.sl false (List.map kL aA.Parts)),(.fn 91 [(.ptr 1 1 0 0)])] (hp17 aA)=some ((iv (-1)),(hp17 aA)):=by
    rw [ev]; exact kT F118 (qp cw<|qp ex<|qb 7 ew<|q0) [((.exit 0),lU aA)] []
   have jX : evF PP T n 0 92 [(.sl false (List.map kL aA.Parts)),(.fn 91 [(.ptr 1 1 0 0)])] (hp17 aA)=some (bf,(hp17 aA)):=by
    rw [cu]; exact kT F92 (qb 7 jW<|q0) [] []
   obtain rfl:=si h
   exact pv_q F68 (qb 72 jX<|qb 67 ct<|qc 61 af<|qa 55 aa<|qa 50 aQ<|qb 45 aZ<|qa 40 aJ<|qa 36 aG<|qa 33 aE<|qa 32 aD<|qa 25 aC<|qa 11 aB<|q0) [] [none,none]
  have cw:=kZ aw aA aw 0 _ cv
  have ez : evF PP T eu 0 118 [(.sl false (List.map kL aA.Parts)),(.fn 91 [(.ptr 1 1 0 0)])] (hp17 aA)=some ((iv ey),(hp17 aA)):=by
   rw [ev]; exact kT F118 (qp cw<|qp ex<|qb 7 ew<|q0) [(.ret,lO aA ey)] []
  rcases cn h with ⟨jY,cx,h⟩ | ⟨jY,cx,h⟩
  ·have jZ : evF PP T n 0 92 [(.sl false (List.map kL aA.Parts)),(.fn 91 [(.ptr 1 1 0 0)])] (hp17 aA)=some (bt,(hp17 aA)):=by
    rw [cu]; exact kT F92 (qa 8 cx<|qb 7 ez<|q0) [] []
   obtain rfl:=si h
   exact pv_q F68 (qb 72 jZ<|qb 67 ct<|qc 61 af<|qa 55 aa<|qa 50 aQ<|qb 45 aZ<|qa 40 aJ<|qa 36 aG<|qa 33 aE<|qa 32 aD<|qa 25 aC<|qa 11 aB<|q0) [] [none,none]
  have ja : evF PP T n 0 92 [(.sl false (List.map kL aA.Parts)),(.fn 91 [(.ptr 1 1 0 0)])] (hp17 aA)=some (bf,(hp17 aA)):=by
   rw [cu]; exact kT F92 (qa 8 cx<|qb 7 ez<|q0) [] []
  obtain rfl:=si h
  exact pv_q F68 (qb 72 ja<|qb 67 ct<|qc 61 af<|qa 55 aa<|qa 50 aQ<|qb 45 aZ<|qa 40 aJ<|qa 36 aG<|qa 33 aE<|qa 32 aD<|qa 25 aC<|qa 11 aB<|q0) [] [none,none]
def aKb (aA : (List Int)) (aB : Int) : St:=⟨[(.sl false (List.map kL aA)),U,U,(iv aB),U,U,U,U,U,U,U,U,U,U,U,U,U,U,U,U],[]⟩
def aBr (aA : (List Int)) : St:=⟨[U,U,bf,U,U,U,U,U,U,U,U,U,U,U,U,U,U,U,U,U],[]⟩
def aBq (aA : (List Int)) : St:=⟨[U,U,U,U,U,U,U,U,U,U,U,U,U,U,U,U,U,U,U,U],[]⟩
def qH (n : Nat) (aA : (List Int)) : Nat→Int→Option (Unit ⊕ Unit)
 | 0,_=>none
 | m + 1,aB=>(cnd (decide (aB < ((aA.length : Nat) : Int))) (bnd (idx aA (IntKind.i64.wrap (aB - 1))) fun aC=>(bnd (idx aA aB) fun aD=>(cnd (decide (aC ≥ aD)) (some (Sum.inl ())) (qH n aA m (IntKind.i64.wrap (aB + 1)))))) (some (Sum.inr ())))
theorem aBp (n : Nat) (aA : (List Int)) : ∀ (m : Nat) (aB : Int) (r : (Unit ⊕ Unit)),qH n aA m aB=some r→lT [] [false,false,true] false 0 0 (kW (kY (some [true,false,false,true]) false 0 0) (evC PP (evF PP T n) n 0 bBq) m (aKb aA aB))=(match r with | .inl r=>some (.ret,aBr aA) | .inr r=>some ((.exit 0),aBq aA))
 | 0,_,_,h=>by cases h
 | m + 1,aB,r,h=>by
  rw [qH] at h
  have aD:=kP (P:=PP) (cf:=evF PP T n) (fl:=0) (H:=[]) (f:=false) (c:=kL) (l:=aA)
  rcases cn h with ⟨aH,aC,h⟩ | ⟨aH,aC,h⟩
  rotate_left
  ·obtain rfl:=si h
   exact kX (some [true,false,false,true]) false (aBq aA) (qa 7 aC<|qb 6 aD<|q0) [] [] trivial
  obtain ⟨aL,aI,h⟩:=kE h
  have aF:=idxl (H:=[]) (f:=false) (c:=kL) aI (lS _)
  obtain ⟨aM,aJ,h⟩:=kE h
  have aG:=idxl (H:=[]) (f:=false) (c:=kL) aJ (lS _)
  rcases cn h with ⟨aK,aE,h⟩ | ⟨aK,aE,h⟩
  ·obtain rfl:=si h
   exact kX (some [true,false,false,true]) false (aBr aA) (qa 19 aE<|qa 17 aG<|qa 13 aF<|qa 7 aC<|qb 6 aD<|q0) [] [] trivial
  exact nx_q (aKb aA (IntKind.i64.wrap (aB + 1))) (qa 19 aE<|qa 17 aG<|qa 13 aF<|qa 7 aC<|qb 6 aD<|q0) [] [] trivial (aBp n aA m (IntKind.i64.wrap (aB + 1)) r h)
def f69 : Nat→(List Int)→Option Bool
 | 0,_=>none
 | n + 1,aA=>(bnd2 (qH n aA n 1) (fun aB=>(some false)) (fun aC=>(some true)))
theorem aKa (n : Nat) (aA : (List Int)) (r : Bool) (h : f69 n aA=some r) : pv PP T n 69 [(.sl false (List.map kL aA))]=some (bv r):=by
 cases n with
 | zero=>cases h
 | succ n =>
  rw [f69] at h
  have aD : kV false 0 0 []:=trivial
  rcases kQ h with ⟨aE,aB,h⟩ | ⟨aF,aB,h⟩
  ·have aC:=aBp n aA n 1 _ aB
   obtain rfl:=si h
   exact pv_q F69 (qp aC<|qp aD<|q0) [(.ret,aBr aA)] []
  have aC:=aBp n aA n 1 _ aB
  obtain rfl:=si h
  exact pv_q F69 (qp aC<|qp aD<|q0) [((.exit 0),aBq aA)] []
def f41 : Nat→GEdit→Option Int
 | 0,_=>none
 | n + 1,aA=>(cnd (decide (aA.Kind < 1)) (some 9) (cnd (decide (aA.Kind > 12)) (some 9) (cnd (aA.Kind == 7) (bnd (f66 n aA.A) fun aB=>(cnd (aB == 0) (some 9) (bnd (f67 n aA) fun aC=>(cnd (aC) (some 1) (cnd (decide (((aA.Via.length : Nat) : Int) > 64)) (some 3) (cnd (decide (((aA.Parts.length : Nat) : Int) > 64)) (some 3) (bnd (f68 n aA) fun aD=>(cnd (aD) (bnd (f69 n aA.Parts) fun aE=>(cnd (aE) (cnd (decide (aA.Name=(⟨#[]⟩ : ByteArray))) (some 0) (bnd (f40 n aA.Name) fun aF=>(cnd (aF != 0) (some 14) (some 0)))) (some 10))) (some 2))))))))) (bnd (f67 n aA) fun aG=>(cnd (aG) (some 1) (cnd (decide (((aA.Via.length : Nat) : Int) > 64)) (some 3) (cnd (decide (((aA.Parts.length : Nat) : Int) > 64)) (some 3) (bnd (f68 n aA) fun aH=>(cnd (aH) (bnd (f69 n aA.Parts) fun aI=>(cnd (aI) (cnd (decide (aA.Name=(⟨#[]⟩ : ByteArray))) (some 0) (bnd (f40 n aA.Name) fun aJ=>(cnd (aJ != 0) (some 14) (some 0)))) (some 10))) (some 2))))))))))
theorem aYs (n : Nat) (aA : GEdit) (r : Int) (h : f41 n aA=some r) : pv PP T n 41 [(.agg (kD aA))]=some (iv r):=by
 cases n with
 | zero=>cases h
 | succ n =>
  rw [f41] at h
  rcases cn h with ⟨ao,aB,h⟩ | ⟨ao,aB,h⟩
  ·obtain rfl:=si h
   exact pv_q F41 (qa 6 aB<|q0) [] []
  rcases cn h with ⟨ap,aC,h⟩ | ⟨ap,aC,h⟩
  ·obtain rfl:=si h
   exact pv_q F41 (qa 10 aC<|qa 6 aB<|q0) [] []
  rcases cn h with ⟨aq,aD,h⟩ | ⟨aq,aD,h⟩
  rotate_left
  ·obtain ⟨bT,ae,h⟩:=kE h
   rcases cn h with ⟨aS,ar,h⟩ | ⟨aS,ar,h⟩
   ·have au:=by have q:=aKd n aA _ ae; rw [aS] at q; exact q
    obtain rfl:=si h
    exact pv_q F41 (qa 24 au<|qa 15 aD<|qa 10 aC<|qa 6 aB<|q0) [] []
   have aI:=by have q:=aKd n aA _ ae; rw [aS] at q; exact q
   have aJ:=kP (P:=PP) (cf:=evF PP T n) (fl:=0) (H:=[(.blk 10 [(kD aA)])]) (f:=false) (c:=kI) (l:=aA.Via)
   rcases cn h with ⟨av,aG,h⟩ | ⟨av,aG,h⟩
   ·obtain rfl:=si h
    exact pv_q F41 (qa 29 aG<|qb 28 aJ<|qa 24 aI<|qa 15 aD<|qa 10 aC<|qa 6 aB<|q0) [] []
   have aO:=kP (P:=PP) (cf:=evF PP T n) (fl:=0) (H:=[(.blk 10 [(kD aA)])]) (f:=false) (c:=kL) (l:=aA.Parts)
   rcases cn h with ⟨aw,aK,h⟩ | ⟨aw,aK,h⟩
   ·obtain rfl:=si h
    exact pv_q F41 (qa 34 aK<|qb 33 aO<|qa 29 aG<|qb 28 aJ<|qa 24 aI<|qa 15 aD<|qa 10 aC<|qa 6 aB<|q0) [] []
   obtain ⟨bU,af,h⟩:=kE h
   rcases cn h with ⟨aT,ax,h⟩ | ⟨aT,ax,h⟩
   rotate_left
   ·have ay:=by have q:=aKc n aA _ af; rw [aT] at q; exact q
    obtain rfl:=si h
    exact pv_q F41 (qa 38 ay<|qa 34 aK<|qb 33 aO<|qa 29 aG<|qb 28 aJ<|qa 24 aI<|qa 15 aD<|qa 10 aC<|qa 6 aB<|q0) [] []
   have aQ:=by have q:=aKc n aA _ af; rw [aT] at q; exact q
   obtain ⟨bV,ag,h⟩:=kE h
   rcases cn h with ⟨aU,az,h⟩ | ⟨aU,az,h⟩
   rotate_left
   ·have bA:=by have q:=aKa n aA.Parts _ ag; rw [aU] at q; exact q
    obtain rfl:=si h
    exact pv_q F41 (qa 43 bA<|qa 38 aQ<|qa 34 aK<|qb 33 aO<|qa 29 aG<|qb 28 aJ<|qa 24 aI<|qa 15 aD<|qa 10 aC<|qa 6 aB<|q0) [] []
   have aV:=by have q:=aKa n aA.Parts _ ag; rw [aU] at q; exact q
   rcases cn h with ⟨aW,bB,h⟩ | ⟨aW,bB,h⟩
   ·have bC:=lF (P:=PP) (cf:=evF PP T n) (fl:=0) (H:=[(.blk 10 [(kD aA)])]) (t:=9) aW
    obtain rfl:=si h
    exact pv_q F41 (qb 48 bC<|qa 43 aV<|qa 38 aQ<|qa 34 aK<|qb 33 aO<|qa 29 aG<|qb 28 aJ<|qa 24 aI<|qa 15 aD<|qa 10 aC<|qa 6 aB<|q0) [] []
   have ah:=lF (P:=PP) (cf:=evF PP T n) (fl:=0) (H:=[(.blk 10 [(kD aA)])]) (t:=9) aW
   obtain ⟨bW,bD,h⟩:=kE h
   have ai:=aO5 n aA.Name _ bD
   rcases cn h with ⟨bE,aX,h⟩ | ⟨bE,aX,h⟩
   ·obtain rfl:=si h
    exact pv_q F41 (qa 53 aX<|qa 52 ai<|qb 48 ah<|qa 43 aV<|qa 38 aQ<|qa 34 aK<|qb 33 aO<|qa 29 aG<|qb 28 aJ<|qa 24 aI<|qa 15 aD<|qa 10 aC<|qa 6 aB<|q0) [] []
   obtain rfl:=si h
   exact pv_q F41 (qa 53 aX<|qa 52 ai<|qb 48 ah<|qa 43 aV<|qa 38 aQ<|qa 34 aK<|qb 33 aO<|qa 29 aG<|qb 28 aJ<|qa 24 aI<|qa 15 aD<|qa 10 aC<|qa 6 aB<|q0) [] []
  obtain ⟨bX,bF,h⟩:=kE h
  have aF:=aYa n aA.A _ bF
  rcases cn h with ⟨bG,aE,h⟩ | ⟨bG,aE,h⟩
  ·obtain rfl:=si h
   exact pv_q F41 (qa 20 aE<|qa 19 aF<|qa 15 aD<|qa 10 aC<|qa 6 aB<|q0) [] []
  obtain ⟨bY,aj,h⟩:=kE h
  rcases cn h with ⟨aY,bH,h⟩ | ⟨aY,bH,h⟩
  ·have bI:=by have q:=aKd n aA _ aj; rw [aY] at q; exact q
   obtain rfl:=si h
   exact pv_q F41 (qa 24 bI<|qa 20 aE<|qa 19 aF<|qa 15 aD<|qa 10 aC<|qa 6 aB<|q0) [] []
  have aL:=by have q:=aKd n aA _ aj; rw [aY] at q; exact q
  have aM:=kP (P:=PP) (cf:=evF PP T n) (fl:=0) (H:=[(.blk 10 [(kD aA)])]) (f:=false) (c:=kI) (l:=aA.Via)
  rcases cn h with ⟨bJ,aH,h⟩ | ⟨bJ,aH,h⟩
  ·obtain rfl:=si h
   exact pv_q F41 (qa 29 aH<|qb 28 aM<|qa 24 aL<|qa 20 aE<|qa 19 aF<|qa 15 aD<|qa 10 aC<|qa 6 aB<|q0) [] []
  have aP:=kP (P:=PP) (cf:=evF PP T n) (fl:=0) (H:=[(.blk 10 [(kD aA)])]) (f:=false) (c:=kL) (l:=aA.Parts)
  rcases cn h with ⟨bK,aN,h⟩ | ⟨bK,aN,h⟩
  ·obtain rfl:=si h
   exact pv_q F41 (qa 34 aN<|qb 33 aP<|qa 29 aH<|qb 28 aM<|qa 24 aL<|qa 20 aE<|qa 19 aF<|qa 15 aD<|qa 10 aC<|qa 6 aB<|q0) [] []
  obtain ⟨bZ,ak,h⟩:=kE h
  rcases cn h with ⟨aZ,bL,h⟩ | ⟨aZ,bL,h⟩
  rotate_left
  ·have bM:=by have q:=aKc n aA _ ak; rw [aZ] at q; exact q
   obtain rfl:=si h
   exact pv_q F41 (qa 38 bM<|qa 34 aN<|qb 33 aP<|qa 29 aH<|qb 28 aM<|qa 24 aL<|qa 20 aE<|qa 19 aF<|qa 15 aD<|qa 10 aC<|qa 6 aB<|q0) [] []
  have aR:=by have q:=aKc n aA _ ak; rw [aZ] at q; exact q
  obtain ⟨ba,al,h⟩:=kE h
  rcases cn h with ⟨aa,bN,h⟩ | ⟨aa,bN,h⟩
  rotate_left
  ·have bO:=by have q:=aKa n aA.Parts _ al; rw [aa] at q; exact q
   obtain rfl:=si h
   exact pv_q F41 (qa 43 bO<|qa 38 aR<|qa 34 aN<|qb 33 aP<|qa 29 aH<|qb 28 aM<|qa 24 aL<|qa 20 aE<|qa 19 aF<|qa 15 aD<|qa 10 aC<|qa 6 aB<|q0) [] []
  have ab:=by have q:=aKa n aA.Parts _ al; rw [aa] at q; exact q
  rcases cn h with ⟨ac,bP,h⟩ | ⟨ac,bP,h⟩
  ·have bQ:=lF (P:=PP) (cf:=evF PP T n) (fl:=0) (H:=[(.blk 10 [(kD aA)])]) (t:=9) ac
   obtain rfl:=si h
   exact pv_q F41 (qb 48 bQ<|qa 43 ab<|qa 38 aR<|qa 34 aN<|qb 33 aP<|qa 29 aH<|qb 28 aM<|qa 24 aL<|qa 20 aE<|qa 19 aF<|qa 15 aD<|qa 10 aC<|qa 6 aB<|q0) [] []
  have am:=lF (P:=PP) (cf:=evF PP T n) (fl:=0) (H:=[(.blk 10 [(kD aA)])]) (t:=9) ac
  obtain ⟨bb,bR,h⟩:=kE h
  have an:=aO5 n aA.Name _ bR
  rcases cn h with ⟨bS,ad,h⟩ | ⟨bS,ad,h⟩
  ·obtain rfl:=si h
   exact pv_q F41 (qa 53 ad<|qa 52 an<|qb 48 am<|qa 43 ab<|qa 38 aR<|qa 34 aN<|qb 33 aP<|qa 29 aH<|qb 28 aM<|qa 24 aL<|qa 20 aE<|qa 19 aF<|qa 15 aD<|qa 10 aC<|qa 6 aB<|q0) [] []
  obtain rfl:=si h
  exact pv_q F41 (qa 53 ad<|qa 52 an<|qb 48 am<|qa 43 ab<|qa 38 aR<|qa 34 aN<|qb 33 aP<|qa 29 aH<|qb 28 aM<|qa 24 aL<|qa 20 aE<|qa 19 aF<|qa 15 aD<|qa 10 aC<|qa 6 aB<|q0) [] []
def aFd (aA : GTxn) (aB : Int) : St:=⟨[U,U,U,U,U,U,U,U,U,U,U,U,U,U,U,U,U,U,U,U,U,U,U,U,U,U,U,U,U,U,U,U,U,U,U,U,U,U,U,U,U,U,U,U,U,U,U,U,U,U,U,U,U,(.sl false (List.map kD aA.Edits)),(iv ((aA.Edits.length : Nat) : Int)),(iv aB),U,U,U,U,U,U,U,U,U],[(.blk 5 [(kF aA)])]⟩
theorem aRh (aA : GTxn) (aB : Int) : kV true 0 1 (aFd aA aB).heap:=(by exact (clo rfl rfl))
def wZ (aA : GTxn) (aB : Int) (aC : Int) (aD : Int) (aE : Int) (aF : Int) (aG : Int) (aH : Int) (aI : (List GPoint)) (aJ : ByteArray) (aK : (List Int)) (aL : Int) : St:=⟨[U,U,(iv aL),U,U,U,U,U,U,U,U,U,U,U,U,U,U,U,U,U,U,U,U,U,U,U,U,U,U,U,U,U,U,U,U,U,U,U,U,U,U,U,U,U,U,U,U,U,U,U,U,U,U,U,U,U,U,U,U,U,U,U,U,U,U],[(.blk 5 [(kF aA)]),(.blk 10 [[(iv aB),(iv aC),(iv aD),(iv aE),(iv aF),(iv aG),(iv aH),(.sl false (List.map kI aI)),(sv aJ),(.sl false (List.map kL aK))]])]⟩
def wY (aA : GTxn) : St:=⟨[U,U,U,U,U,U,U,U,U,U,U,U,U,U,U,U,U,U,U,U,U,U,U,U,U,U,U,U,U,U,U,U,U,U,U,U,U,U,U,U,U,U,U,U,U,U,U,U,U,U,U,U,U,U,U,U,U,U,U,U,U,U,U,U,U],[(.blk 5 [(kF aA)])]⟩
def uU (n : Nat) (aB : GTxn) : Nat→Int→Option ((Int × Int × Int × Int × Int × Int × Int × (List GPoint) × ByteArray × (List Int) × Int) ⊕ Unit)
 | 0,_=>none
 | m + 1,aC=>(cnd (decide (aC < ((aB.Edits.length : Nat) : Int))) (bnd (idx aB.Edits aC) fun aA=>(bnd (f41 n aA) fun aD=>(cnd (aD != 0) (some (Sum.inl (aA.Kind,aA.ID,aA.A,aA.B,aA.C,aA.At.X,aA.At.Y,aA.Via,aA.Name,aA.Parts,aD))) (uU n aB m (IntKind.i64.wrap (aC + 1)))))) (some (Sum.inr ())))
theorem tH (n : Nat) (aB : GTxn) : ∀ (m : Nat) (aC : Int) (r : ((Int × Int × Int × Int × Int × Int × Int × (List GPoint) × ByteArray × (List Int) × Int) ⊕ Unit)),uU n aB m aC=some r→lT [] [false,false,true] true 0 1 (kW (kY (some lv9) true 0 1) (evC PP (evF PP T n) n 0 bB6) m (aFd aB aC))=(match r with | .inl r=>some (.ret,wZ aB r.1 r.2.1 r.2.2.1 r.2.2.2.1 r.2.2.2.2.1 r.2.2.2.2.2.1 r.2.2.2.2.2.2.1 r.2.2.2.2.2.2.2.1 r.2.2.2.2.2.2.2.2.1 r.2.2.2.2.2.2.2.2.2.1 r.2.2.2.2.2.2.2.2.2.2) | .inr r=>some ((.exit 0),wY aB))
 | 0,_,_,h=>by cases h
 | m + 1,aC,r,h=>by
  rw [uU] at h
  rcases cn h with ⟨aH,aD,h⟩ | ⟨aH,aD,h⟩
  rotate_left
  ·obtain rfl:=si h
   exact kX (some lv9) true (wY aB) (qa 56 aD<|q0) [] [] (by exact (clo rfl rfl))
  obtain ⟨aA,aI,h⟩:=kE h
  have aF:=idxl (H:=[(.blk 5 [(kF aB)])]) (f:=false) (c:=kD) aI (lP _)
  obtain ⟨aJ,aK,h⟩:=kE h
  have aG:=aYs n aA _ aK
  rcases cn h with ⟨aL,aE,h⟩ | ⟨aL,aE,h⟩
  rotate_left
  ·exact nx_q (aFd aB (IntKind.i64.wrap (aC + 1))) (qa 62 aE<|qa 60 aG<|qa 57 aF<|qa 56 aD<|q0) [] [none] (aRh _ _) (tH n aB m (IntKind.i64.wrap (aC + 1)) r h)
  obtain rfl:=si h
  exact kX (some lv9) true (wZ aB aA.Kind aA.ID aA.A aA.B aA.C aA.At.X aA.At.Y aA.Via aA.Name aA.Parts aJ) (qa 62 aE<|qa 60 aG<|qa 57 aF<|qa 56 aD<|q0) [] [none] trivial
def f22 : Nat→GTxn→Option Int
 | 0,_=>none
 | n + 1,aA=>(cnd (decide (aA.Office < 1)) (some 2) (cnd (decide (aA.Office > 8)) (some 2) (cnd (decide (aA.Seq < 1)) (some 2) (cnd (decide (aA.Seq > 1073741824)) (some 2) (cnd (decide (aA.Time < 0)) (some 2) (cnd (decide (aA.Time > 1073741824)) (some 2) (cnd (decide (aA.Source=(⟨#[]⟩ : ByteArray))) (cnd (decide (((aA.Edits.length : Nat) : Int) < 1)) (some 3) (cnd (decide (((aA.Edits.length : Nat) : Int) > 64)) (some 3) (bnd2 (uU n aA n 0) (fun aC=>(some aC.2.2.2.2.2.2.2.2.2.2)) (fun aE=>(some 0))))) (bnd (f40 n aA.Source) fun aB=>(cnd (aB != 0) (some aB) (cnd (decide (((aA.Edits.length : Nat) : Int) < 1)) (some 3) (cnd (decide (((aA.Edits.length : Nat) : Int) > 64)) (some 3) (bnd2 (uU n aA n 0) (fun aD=>(some aD.2.2.2.2.2.2.2.2.2.2)) (fun aF=>(some 0))))))))))))))
end Go.Proofs.YtkdnaejhpcibnaaGreatDoor.Av
