/- A part of the proof of a law of the chapter warp: an evaluator of the program, proved sound, and what it says. -/
import Derived.Test.YtapabkfjeiknbaaGreatAvChk
import Derived.Laws.Entries
set_option linter.unusedVariables false
set_option linter.unusedSimpArgs false
namespace Go.Proofs.YtapabkfjeiknbaaGreat.Av
open Go
abbrev Lf (d n t : Nat) : AOper:=⟨some d,.load false n (.tmp t),none⟩
abbrev La (d n t : Nat) : AOper:=⟨some d,.load true n (.tmp t),none⟩
abbrev Fa (d o t : Nat) : AOper:=⟨some d,.fieldAddr o (.tmp t),none⟩
abbrev Ia (d s x i : Nat) : AOper:=⟨some d,.idxAddr s (.tmp x) (.tmp i),none⟩
abbrev Ib (d : Nat) (o : BinOp) (x y : Nat) : AOper:=⟨some d,.ibin o (.tmp x) (.tmp y),none⟩
abbrev Ic (d : Nat) (o : BinOp) (x : Nat) (k : Int) : AOper:=⟨some d,.ibin o (.tmp x) (.lit (.int .i64 k)),none⟩
abbrev Ln (d x : Nat) : AOper:=⟨some d,.lenS (.tmp x),none⟩
abbrev Ex (d x i : Nat) : AOper:=⟨some d,.extract (.tmp x) i,none⟩
abbrev Pf (d a b : Nat) : AOper:=⟨some d,.pick (.tmp a) (.tmp b) (.lit (.bool false)),none⟩
abbrev Pt (d a b : Nat) : AOper:=⟨some d,.pick (.tmp a) (.lit (.bool true)) (.tmp b),none⟩
abbrev Nt (d x : Nat) : AOper:=⟨some d,.un .not (.tmp x),none⟩
abbrev Rg (l : List AOper) : ACode:=.region false [] l
abbrev Sq (a b : ACode) : ACode:=.seq a b
abbrev Ut (t : Nat) : AOpd:=.tmp t
abbrev Uk (z : Int) : AOpd:=.lit (.int .i64 z)
abbrev Uo (d : Nat) (x : AOp) : AOper:=⟨some d,x,none⟩
abbrev Ug (d g : Nat) (b : Bool) (x : AOp) : AOper:=⟨some d,x,some (g,b)⟩
abbrev Um (d t : Nat) : AOper:=⟨some d,.mov (.tmp t),none⟩
abbrev Un (d t g : Nat) (b : Bool) : AOper:=⟨some d,.mov (.tmp t),some (g,b)⟩
def L0_0 : ACode:=(Rg [La 9 3 3,Uo 10 (.callB 1 [(Ut 9)]),Nt 11 10,Um 12 11,Ug 13 12 false (.load true 3 (Ut 4)),Ug 14 12 false (.callB 1 [(Ut 13)]),Ug 15 12 false (.un .not (Ut 14)),Pt 16 12 15,Um 17 16,Ug 18 17 false (.load true 3 (Ut 5)),Ug 19 17 false (.callB 1 [(Ut 18)]),Ug 20 17 false (.un .not (Ut 19)),Pt 21 17 20])
def L0_1 : ACode:=(Rg [Um 29 7,La 30 3 4,La 31 3 3,Uo 32 (.callB 3 [(Ut 30),(Ut 31)]),Uo 33 (.bin .neq 4 (Ut 29) (Ut 32)),Um 34 33,Un 35 7 34 false,Un 36 35 34 false,Un 37 8 36 true,Ug 38 34 false (.pick (Ut 36) (Ut 37) (.lit (.bool false))),Un 39 38 34 false,Ug 40 39 true (.load true 3 (Ut 3)),Ug 41 39 true (.load true 3 (Ut 5)),Ug 42 39 true (.callB 3 [(Ut 40),(Ut 41)]),Ug 43 39 true (.un .not (Ut 42)),Ug 44 34 false (.pick (Ut 39) (Ut 43) (.lit (.bool false))),Pt 45 34 44])
def F0 : AFun:={ fid:=3,nt:=56,rets:=[.tmp 6],body:=(Sq (Rg [Uo 3 (.box (Ut 0)),Uo 4 (.box (Ut 1)),Uo 5 (.box (Ut 2)),Uo 6 (.mov (.lit (.bool false)))]) (Sq (Sq (.told [false,false,false,true,true,true] [false,false,false,true,true,true,false,false,false,false,false,false,false,false,false,false,false,false,false,false,false,true] [false,false,false,false,false,false,true] L0_0) (.cond (Ut 21) (Sq (Rg [Uo 22 (.call true 2 []),Um 6 22]) .ret) .skip)) (Sq (.region true [] [La 23 3 3,La 24 3 4,Uo 25 (.callB 3 [(Ut 23),(Ut 24)]),La 26 3 4,La 27 3 5,Uo 28 (.callB 3 [(Ut 26),(Ut 27)]),Um 7 25,Um 8 28]) (Sq (Sq (.told [false,false,false,true,true,true,false,true,true] [false,false,false,true,false,false,false,false,false,false,false,false,false,false,false,false,false,false,false,false,false,false,false,false,false,false,false,false,false,false,false,false,false,false,false,false,false,false,false,false,false,false,false,false,false,true] [false,false,false,false,false,false,true] L0_1) (.cond (Ut 45) (Sq (Rg [Uo 6 (.mov (.lit (.bool false)))]) .ret) .skip)) (Sq (.region true [] [La 46 3 3,La 47 3 3,Uo 48 (.callB 3 [(Ut 46),(Ut 47)]),La 49 3 3,Uo 50 (.callB 4 [(Ut 49)]),Ic 51 .eql 50 0,Uo 52 (.bin .eql 4 (Ut 48) (Ut 51)),Um 53 52,Ug 54 53 true (.call true 2 []),Pf 55 53 54,Um 6 55]) .ret))))) }
def L1_0 : ACode:=(Rg [Fa 4 0 1,Lf 5 1 4,Ln 6 5,Ic 7 .gtr 6 40,Um 8 7,Ug 9 8 false (.fieldAddr 1 (Ut 1)),Ug 10 8 false (.load false 1 (Ut 9)),Ug 11 8 false (.lenS (Ut 10)),Ug 12 8 false (.ibin .gtr (Ut 11) (Uk 40)),Pt 13 8 12,Um 14 13,Ug 15 14 false (.fieldAddr 2 (Ut 1)),Ug 16 14 false (.load false 1 (Ut 15)),Ug 17 14 false (.lenS (Ut 16)),Ug 18 14 false (.ibin .gtr (Ut 17) (Uk 40)),Pt 19 14 18])
def L1_1 : ACode:=(Sq (Sq (Rg [Um 20 3,Fa 21 1 1,Lf 22 1 21,Ln 23 22,Ib 24 .lss 20 23]) (.cond (Ut 24) .skip (.exit 0))) (Sq (.block 1 (Sq (Rg [Fa 27 1 1,Lf 28 1 27,Um 29 3,Ia 30 6 28 29,Fa 31 3 30,Lf 32 1 31,Ln 33 32,Ic 34 .gtr 33 12]) (.cond (Ut 34) (Sq (Rg [Uo 2 (.mov (.lit (.bool false)))]) .ret) .skip))) (Rg [Um 25 3,Ic 26 .add 25 1,Um 3 26])))
def F1 : AFun:={ fid:=4,nt:=35,rets:=[.tmp 2],body:=(Sq (Rg [Uo 1 (.box (Ut 0)),Uo 2 (.mov (.lit (.bool false)))]) (Sq (Sq (.told [false,true] [false,true,false,false,false,false,false,false,false,false,false,false,false,false,false,false,false,false,false,true] [false,false,true] L1_0) (.cond (Ut 19) (Sq (Rg [Uo 2 (.mov (.lit (.bool false)))]) .ret) .skip)) (Sq (Sq (Rg [Uo 3 (.mov (Uk 0))]) (.block 0 (.mask [] [false,false,true] false (.loop (some [false,true,false,true]) false L1_1)))) (Sq (Rg [Uo 2 (.mov (.lit (.bool true)))]) .ret)))) }
def F2 : AFun:={ fid:=5,nt:=55,rets:=[.tmp 0],body:=(Sq (Rg [Uo 0 (.mov (.lit (.bool false)))]) (Sq (Rg [Uo 6 (.call true 5 []),Uo 7 (.build [(.int .i64 0),(.int .i64 0),(.int .i64 0),(.int .i64 0)] [(0,1,(Uk 1)),(3,1,(Uk 262144))]),Uo 8 (.call true 6 [(Ut 6),(Ut 7)]),Um 5 8,Ex 9 5 0,Ex 10 5 1,Uo 1 (.alloc [nilS,nilS,nilS]),⟨none,.store 3 (Ut 1) (Ut 9),none⟩,Um 2 10]) (Sq (Rg [Uo 12 (.call true 5 []),Uo 13 (.build [(.int .i64 0),(.int .i64 0),(.int .i64 0),(.int .i64 0)] [(0,1,(Uk 1)),(3,1,(Uk 1))]),Uo 14 (.call true 6 [(Ut 12),(Ut 13)]),Um 11 14,Ex 15 11 0,Ex 16 11 1,Uo 3 (.alloc [nilS,nilS,nilS]),⟨none,.store 3 (Ut 3) (Ut 15),none⟩,Um 4 16]) (Sq (.region true [] [Um 17 2,Ic 18 .eql 17 0,Um 19 18,Ug 20 19 true (.fieldAddr 0 (Ut 1)),Ug 21 19 true (.load false 1 (Ut 20)),Ug 22 19 true (.lenS (Ut 21)),Ug 23 19 true (.ibin .eql (Ut 22) (Uk 2)),Pf 24 19 23,Um 25 24,Ug 26 25 true (.fieldAddr 1 (Ut 1)),Ug 27 25 true (.load false 1 (Ut 26)),Ug 28 25 true (.lenS (Ut 27)),Ug 29 25 true (.ibin .eql (Ut 28) (Uk 1)),Pf 30 25 29,Um 31 30,Ug 32 31 true (.fieldAddr 1 (Ut 1)),Ug 33 31 true (.load false 1 (Ut 32)),Ug 34 31 true (.idxAddr 6 (Ut 33) (Uk 0)),Ug 35 31 true (.fieldAddr 3 (Ut 34)),Ug 36 31 true (.load false 1 (Ut 35)),Ug 37 31 true (.lenS (Ut 36)),Ug 38 31 true (.ibin .eql (Ut 37) (Uk 3)),Pf 39 31 38,Um 40 39,Un 41 4 40 true,Ug 42 40 true (.ibin .eql (Ut 41) (Uk 8)),Pf 43 40 42,Um 44 43,Ug 45 44 true (.call true 5 []),Ug 46 44 true (.load true 3 (Ut 1)),Ug 47 44 true (.callS 3 [(Ut 45),(Ut 46)]),Pf 48 44 47,Um 49 48,Ug 50 49 true (.call true 5 []),Ug 51 49 true (.build [nilS,nilS,nilS] []),Ug 52 49 true (.callS 3 [(Ut 50),(Ut 51)]),Ug 53 49 true (.un .not (Ut 52)),Pf 54 49 53,Um 0 54]) .ret)))) }
def F3 : AFun:={ fid:=6,nt:=39,rets:=[.tmp 4],body:=(Sq (Rg [Uo 2 (.box (Ut 0)),Uo 3 (.box (Ut 1)),Uo 4 (.mov (.lit (.bool false)))]) (Sq (Rg [La 9 3 2,Uo 10 (.callB 7 [(Ut 9)]),Um 8 10,Ex 11 8 0,Ex 12 8 1,Um 5 11,Um 6 12]) (Sq (Sq (Rg [Um 13 6,Ic 14 .neq 13 0]) (.cond (Ut 14) (Sq (Rg [Uo 4 (.mov (.lit (.bool false)))]) .ret) .skip)) (Sq (Rg [La 16 3 3,Uo 17 (.callB 7 [(Ut 16)]),Um 15 17,Ex 18 15 0,Ex 19 15 1,Um 7 18,Um 6 19]) (Sq (Sq (Rg [Um 20 6,Ic 21 .neq 20 0]) (.cond (Ut 21) (Sq (Rg [Uo 4 (.mov (.lit (.bool false)))]) .ret) .skip)) (Sq (Rg [Fa 22 0 2,Lf 23 1 22,Fa 24 0 3,Lf 25 1 24,Uo 26 (.call false 8 [(Ut 23),(Ut 25),(.fn 9)]),Um 27 26,Ug 28 27 true (.fieldAddr 1 (Ut 2)),Ug 29 27 true (.load false 1 (Ut 28)),Ug 30 27 true (.fieldAddr 1 (Ut 3)),Ug 31 27 true (.load false 1 (Ut 30)),Ug 32 27 true (.call false 10 [(Ut 29),(Ut 31),(.fn 11)]),Pf 33 27 32,Um 34 33,Un 35 5 34 true,Un 36 7 34 true,Ug 37 34 true (.call false 12 [(Ut 35),(Ut 36),(.fn 13)]),Pf 38 34 37,Um 4 38]) .ret)))))) }
def F4 : AFun:={ fid:=7,nt:=11,rets:=[.tmp 2],body:=(Sq (Rg [Uo 1 (.box (Ut 0)),Uo 2 (.mov (Uk 0))]) (Sq (Rg [La 4 3 1,Uo 5 (.callB 14 [(Ut 4)]),Um 3 5,Ex 6 3 0,Ex 7 3 1,Ex 8 3 2,Ex 9 3 3,Um 2 9]) (Sq (Rg [Um 10 2,Um 2 10]) .ret))) }
def F5 : AFun:={ fid:=9,nt:=15,rets:=[.cell 0 3 true],body:=(Sq (Rg [Uo 0 (.alloc [nilS,nilS,nilS])]) (Sq (Rg [Uo 2 (.build [(.int .i64 0),(.int .i64 0)] [(0,1,(Uk 3600))]),Uo 3 (.build [(.int .i64 0),(.int .i64 0)] [(0,1,(Uk 3600)),(1,1,(Uk 3600))]),Uo 4 (.build [(.int .i64 0),(.int .i64 0)] [(1,1,(Uk 3600))]),Uo 5 (.buildSl true 2 3 [(.int .i64 0),(.int .i64 0)] [(0,(Ut 2)),(1,(Ut 3)),(2,(Ut 4))]),Uo 6 (.build [(.int .i64 0),(.int .i64 0),(.int .i64 0),nilS,(.int .i64 0),(.int .i64 0)] [(0,1,(Uk 1)),(1,1,(Uk 1)),(2,1,(Uk 1)),(3,1,(Ut 5)),(4,1,(Uk 1))]),Uo 1 (.alloc [(.int .i64 0),(.int .i64 0),(.int .i64 0),nilS,(.int .i64 0),(.int .i64 0)]),⟨none,.store 6 (Ut 1) (Ut 6),none⟩]) (Sq (Rg [Uo 7 (.build [(.int .i64 0),(.int .i64 0),(.int .i64 0)] [(0,1,(Uk 1))]),Uo 8 (.build [(.int .i64 0),(.int .i64 0)] [(0,1,(Uk 1800)),(1,1,(Uk 1800))]),Uo 9 (.build [(.int .i64 0),(.int .i64 0),(.int .i64 0)] [(0,1,(Uk 2)),(1,2,(Ut 8))]),Uo 10 (.buildSl true 3 2 [(.int .i64 0),(.int .i64 0),(.int .i64 0)] [(0,(Ut 7)),(1,(Ut 9))]),La 11 6 1,Uo 12 (.buildSl true 6 1 [(.int .i64 0),(.int .i64 0),(.int .i64 0),nilS,(.int .i64 0),(.int .i64 0)] [(0,(Ut 11))]),Uo 13 (.buildSl true 1 1 [(.int .i64 0)] [(0,(Uk 1))]),Uo 14 (.build [nilS,nilS,nilS] [(0,1,(Ut 10)),(1,1,(Ut 12)),(2,1,(Ut 13))]),⟨none,.store 3 (Ut 0) (Ut 14),none⟩]) .ret))) }
def L6_0 : ACode:=(Sq (Rg [Ib 37 .lss 36 35]) (Sq (.cond (Ut 37) .skip (.exit 0)) (Sq (.block 1 (Sq (Rg [Ia 38 3 34 36,La 39 3 38,Uo 9 (.alloc [(.int .i64 0),(.int .i64 0),(.int .i64 0)]),⟨none,.store 3 (Ut 9) (Ut 39),none⟩]) (Sq (Rg [La 41 4 3,Fa 42 1 9,La 43 2 42,Uo 44 (.buildSl false 2 1 [(.int .i64 0),(.int .i64 0)] [(0,(Ut 43))]),Uo 45 (.call true 17 [(Ut 41),(Ut 44)]),Um 40 45,Ex 46 40 0,Ex 47 40 1,Um 10 46,Um 11 47]) (Sq (Sq (Rg [Um 48 11,Ic 49 .neq 48 0]) (.cond (Ut 49) (Sq .stop .ret) .skip)) (Sq (.region true [] [Um 52 7,Fa 53 0 9,Lf 54 1 53,Um 55 10,Uo 56 (.idxAddr 2 (Ut 55) (Uk 0)),La 57 2 56,⟨none,.mapUpd 3 (Ut 52) (Ut 54) (Ut 57),none⟩]) (.region true [] [Fa 58 0 6,Lf 59 1 58,Fa 60 0 9,Lf 61 1 60,Um 62 10,Uo 63 (.idxAddr 2 (Ut 62) (Uk 0)),La 64 2 63,Uo 65 (.build [(.int .i64 0),(.int .i64 0),(.int .i64 0)] [(0,1,(Ut 61)),(1,2,(Ut 64))]),Uo 66 (.buildSl true 3 1 [(.int .i64 0),(.int .i64 0),(.int .i64 0)] [(0,(Ut 65))]),Uo 67 (.append 3 24 (Ut 59) (Ut 66)),Fa 68 0 6,⟨none,.store 1 (Ut 68) (Ut 67),none⟩])))))) (Rg [Ic 69 .add 36 1,Um 36 69]))))
def L6_1 : ACode:=(Sq (Rg [Ib 74 .lss 73 72]) (Sq (.cond (Ut 74) .skip (.exit 2)) (Sq (.block 3 (Sq (Rg [Ia 75 6 71 73,La 76 6 75,Uo 13 (.alloc [(.int .i64 0),(.int .i64 0),(.int .i64 0),nilS,(.int .i64 0),(.int .i64 0)]),⟨none,.store 6 (Ut 13) (Ut 76),none⟩]) (Sq (Rg [La 78 4 3,Fa 79 3 13,Lf 80 1 79,Uo 81 (.call true 17 [(Ut 78),(Ut 80)]),Um 77 81,Ex 82 77 0,Ex 83 77 1,Um 14 82,Um 15 83]) (Sq (Sq (Rg [Um 84 15,Ic 85 .neq 84 0]) (.cond (Ut 85) (Sq .stop .ret) .skip)) (Sq (Rg [Um 88 14,Um 89 7,Fa 90 1 13,Lf 91 1 90,Uo 92 (.lookup 3 (.agg [(.int .i64 0),(.int .i64 0)]) (Ut 89) (Ut 91) false),Um 93 7,Fa 94 2 13,Lf 95 1 94,Uo 96 (.lookup 3 (.agg [(.int .i64 0),(.int .i64 0)]) (Ut 93) (Ut 95) false),Uo 97 (.call true 18 [(Ut 88),(Ut 92),(Ut 96)]),Fa 98 3 13,⟨none,.store 1 (Ut 98) (Ut 97),none⟩]) (Rg [Fa 99 1 6,Lf 100 1 99,La 101 6 13,Uo 102 (.buildSl true 6 1 [(.int .i64 0),(.int .i64 0),(.int .i64 0),nilS,(.int .i64 0),(.int .i64 0)] [(0,(Ut 101))]),Uo 103 (.append 6 64 (Ut 100) (Ut 102)),Fa 104 1 6,⟨none,.store 1 (Ut 104) (Ut 103),none⟩])))))) (Rg [Ic 105 .add 73 1,Um 73 105]))))
def F6 : AFun:={ fid:=8,nt:=118,rets:=[.cell 4 3 true,.tmp 5],body:=(Sq (Rg [Uo 2 (.box (Ut 0)),Uo 3 (.box (Ut 1)),Uo 4 (.alloc [nilS,nilS,nilS]),Uo 5 (.mov (Uk 0))]) (Sq (Sq (Rg [La 16 3 2,Uo 17 (.callS 4 [(Ut 16)]),Um 5 17]) (Sq (Rg [Um 18 5,Ic 19 .neq 18 0]) (.cond (Ut 19) (Sq .stop .ret) .skip))) (Sq (Sq (Rg [La 22 4 3,Uo 23 (.callS 15 [(Ut 22)]),Um 5 23]) (Sq (Rg [Um 24 5,Ic 25 .neq 24 0]) (.cond (Ut 25) (Sq .stop .ret) .skip))) (Sq (Rg [Fa 28 2 2,Lf 29 1 28,Uo 30 (.call true 16 [(Ut 29)]),Uo 31 (.build [nilS,nilS,nilS] [(2,1,(Ut 30))]),Uo 6 (.alloc [nilS,nilS,nilS]),⟨none,.store 3 (Ut 6) (Ut 31),none⟩]) (Sq (Rg [Uo 32 (.mkMap),Um 7 32]) (Sq (Sq (Rg [Fa 33 0 2,Lf 34 1 33,Ln 35 34,Uo 36 (.mov (Uk 0))]) (.block 0 (.mask [false,false,true,true,true,false,true,true] [false,false,false,false,true,true] false (.loop (some [false,false,true,true,true,false,true,true,false,false,false,false,false,false,false,false,false,false,false,false,false,false,false,false,false,false,false,false,false,false,false,false,false,false,true,true,true]) false L6_0)))) (Sq (Sq (Rg [Fa 70 1 2,Lf 71 1 70,Ln 72 71,Uo 73 (.mov (Uk 0))]) (.block 2 (.mask [false,false,true,false,true,false,true] [false,false,false,false,true,true] false (.loop (some [false,false,true,true,true,false,true,true,false,false,false,false,false,false,false,false,false,false,false,false,false,false,false,false,false,false,false,false,false,false,false,false,false,false,false,false,false,false,false,false,false,false,false,false,false,false,false,false,false,false,false,false,false,false,false,false,false,false,false,false,false,false,false,false,false,false,false,false,false,false,false,true,true,true]) false L6_1)))) (Sq (Sq (Rg [La 106 3 6,Uo 107 (.callS 4 [(Ut 106)]),Um 5 107]) (Sq (Rg [Um 108 5,Ic 109 .neq 108 0]) (.cond (Ut 109) (Sq (Rg [La 110 3 4,Um 111 5,⟨none,.store 3 (Ut 4) (Ut 110),none⟩,Um 5 111]) .ret) .skip))) (Sq (Sq (Rg [La 112 3 2,La 113 3 6,Uo 114 (.callS 3 [(Ut 112),(Ut 113)]),Nt 115 114]) (.cond (Ut 115) (Sq .stop .ret) .skip)) (Sq (Rg [La 117 3 6,⟨none,.store 3 (Ut 4) (Ut 117),none⟩,Uo 5 (.mov (Uk 0))]) .ret)))))))))) }
def L7_0 : ACode:=(Sq (Rg [Ib 22 .lss 21 20]) (Sq (.cond (Ut 22) .skip (.exit 0)) (Sq (.block 1 (Sq (Rg [Um 23 21,Ia 24 4 19 21,La 25 4 24,Uo 8 (.alloc [(.int .i64 0),nilS,nilS,nilS]),Um 7 23,⟨none,.store 4 (Ut 8) (Ut 25),none⟩]) (.region true [] [Um 26 2,Um 27 5,Um 28 7,Ia 29 1 27 28,Lf 30 1 29,Fa 31 1 8,Lf 32 1 31,Fa 33 2 8,Lf 34 1 33,Fa 35 3 8,Lf 36 1 35,Uo 37 (.build [(.int .i64 0),nilS,nilS,nilS] [(0,1,(Ut 30)),(1,1,(Ut 32)),(2,1,(Ut 34)),(3,1,(Ut 36))]),Uo 38 (.buildSl true 4 1 [(.int .i64 0),nilS,nilS,nilS] [(0,(Ut 37))]),Uo 39 (.append 4 80 (Ut 26) (Ut 38)),Um 2 39]))) (Rg [Ic 40 .add 21 1,Um 21 40]))))
def F7 : AFun:={ fid:=10,nt:=44,rets:=[.tmp 2,.tmp 3],body:=(Sq (Rg [Uo 1 (.box (Ut 0)),Uo 2 (.claim 4),Uo 3 (.mov (Uk 0))]) (Sq (Rg [La 10 3 1,Uo 11 (.callB 14 [(Ut 10)]),Um 9 11,Ex 12 9 0,Ex 13 9 1,Ex 14 9 2,Ex 15 9 3,Um 4 12,Um 5 13,Um 6 14,Um 3 15]) (Sq (Sq (Rg [Um 16 3,Ic 17 .neq 16 0]) (.cond (Ut 17) (Sq (Rg [Um 18 3,Uo 2 (.movN (.lit nilS)),Um 3 18]) .ret) .skip)) (Sq (Sq (Rg [Um 19 4,Ln 20 19,Uo 21 (.mov (Uk 0))]) (.block 0 (.mask [false,false,true] [false,false,true,true] true (.loop (some [false,false,true,false,false,true,false,false,false,false,false,false,false,false,false,false,false,false,false,true,true,true]) true L7_0)))) (Sq (Rg [Um 41 2,Uo 42 (.call false 19 [(Ut 41),(.fn 20)])]) (Sq (Rg [Um 43 2,Um 2 43,Uo 3 (.mov (Uk 0))]) .ret)))))) }
def L8_0 : ACode:=(Sq (Rg [Ib 18 .lss 17 16]) (Sq (.cond (Ut 18) .skip (.exit 0)) (Sq (.block 1 (Sq (Rg [Um 19 17,Ia 20 3 15 17,La 21 3 20,Uo 8 (.alloc [(.int .i64 0),(.int .i64 0),(.int .i64 0)]),Um 7 19,⟨none,.store 3 (Ut 8) (Ut 21),none⟩]) (Sq (Rg [Um 22 1,Um 23 7,Ia 24 3 22 23,La 25 3 24,Uo 9 (.alloc [(.int .i64 0),(.int .i64 0),(.int .i64 0)]),⟨none,.store 3 (Ut 9) (Ut 25),none⟩]) (Sq (Rg [Um 26 2,La 27 3 8,La 28 3 9,Uo 29 (.callv false (Ut 26) [(Ut 27),(Ut 28)]),Nt 30 29]) (.cond (Ut 30) (Sq (Rg [Uo 6 (.mov (.lit (.bool false)))]) .ret) .skip))))) (Rg [Ic 31 .add 17 1,Um 17 31]))))
def F8 : AFun:={ fid:=11,nt:=32,rets:=[.tmp 6],body:=(Sq (Rg [Uo 6 (.mov (.lit (.bool false)))]) (Sq (Sq (Rg [Um 10 0,Ln 11 10,Um 12 1,Ln 13 12,Ib 14 .neq 11 13]) (.cond (Ut 14) (Sq (Rg [Uo 6 (.mov (.lit (.bool false)))]) .ret) .skip)) (Sq (Sq (Rg [Um 15 0,Ln 16 15,Uo 17 (.mov (Uk 0))]) (.block 0 (.mask [] [false,false,false,false,false,false,true] true (.loop (some [false,true,true,false,false,false,false,false,false,false,false,false,false,false,false,true,true,true]) true L8_0)))) (Sq (Rg [Uo 6 (.mov (.lit (.bool true)))]) .ret)))) }
def F9 : AFun:={ fid:=12,nt:=10,rets:=[.tmp 4],body:=(Sq (Rg [Uo 2 (.box (Ut 0)),Uo 3 (.box (Ut 1)),Uo 4 (.mov (.lit (.bool false)))]) (Sq (Rg [Fa 5 0 2,Lf 6 1 5,Fa 7 0 3,Lf 8 1 7,Ib 9 .eql 6 8,Um 4 9]) .ret)) }
def bIm : ACode:=(Sq (Rg [Ib 18 .lss 17 16]) (Sq (.cond (Ut 18) .skip (.exit 0)) (Sq (.block 1 (Sq (Rg [Um 19 17,Ia 20 6 15 17,La 21 6 20,Uo 8 (.alloc [(.int .i64 0),(.int .i64 0),(.int .i64 0),nilS,(.int .i64 0),(.int .i64 0)]),Um 7 19,⟨none,.store 6 (Ut 8) (Ut 21),none⟩]) (Sq (Rg [Um 22 1,Um 23 7,Ia 24 6 22 23,La 25 6 24,Uo 9 (.alloc [(.int .i64 0),(.int .i64 0),(.int .i64 0),nilS,(.int .i64 0),(.int .i64 0)]),⟨none,.store 6 (Ut 9) (Ut 25),none⟩]) (Sq (Rg [Um 26 2,La 27 6 8,La 28 6 9,Uo 29 (.callv false (Ut 26) [(Ut 27),(Ut 28)]),Nt 30 29]) (.cond (Ut 30) (Sq (Rg [Uo 6 (.mov (.lit (.bool false)))]) .ret) .skip))))) (Rg [Ic 31 .add 17 1,Um 17 31]))))
def F10 : AFun:={ fid:=13,nt:=32,rets:=[.tmp 6],body:=(Sq (Rg [Uo 6 (.mov (.lit (.bool false)))]) (Sq (Sq (Rg [Um 10 0,Ln 11 10,Um 12 1,Ln 13 12,Ib 14 .neq 11 13]) (.cond (Ut 14) (Sq (Rg [Uo 6 (.mov (.lit (.bool false)))]) .ret) .skip)) (Sq (Sq (Rg [Um 15 0,Ln 16 15,Uo 17 (.mov (Uk 0))]) (.block 0 (.mask [] [false,false,false,false,false,false,true] true (.loop (some [false,true,true,false,false,false,false,false,false,false,false,false,false,false,false,true,true,true]) true bIm)))) (Sq (Rg [Uo 6 (.mov (.lit (.bool true)))]) .ret)))) }
def F11 : AFun:={ fid:=14,nt:=10,rets:=[.tmp 4],body:=(Sq (Rg [Uo 2 (.box (Ut 0)),Uo 3 (.box (Ut 1)),Uo 4 (.mov (.lit (.bool false)))]) (Sq (.region true [] [La 5 6 2,Uo 6 (.callB 21 [(Ut 5)]),La 7 6 3,Uo 8 (.callB 21 [(Ut 7)]),Uo 9 (.bin .eql 52 (Ut 6) (Ut 8)),Um 4 9]) .ret)) }
def bIl : ACode:=(Sq (Rg [Ib 18 .lss 17 16]) (Sq (.cond (Ut 18) .skip (.exit 0)) (Sq (.block 1 (Sq (Rg [Um 19 17,Ia 20 4 15 17,La 21 4 20,Uo 8 (.alloc [(.int .i64 0),nilS,nilS,nilS]),Um 7 19,⟨none,.store 4 (Ut 8) (Ut 21),none⟩]) (Sq (Rg [Um 22 1,Um 23 7,Ia 24 4 22 23,La 25 4 24,Uo 9 (.alloc [(.int .i64 0),nilS,nilS,nilS]),⟨none,.store 4 (Ut 9) (Ut 25),none⟩]) (Sq (Rg [Um 26 2,La 27 4 8,La 28 4 9,Uo 29 (.callv false (Ut 26) [(Ut 27),(Ut 28)]),Nt 30 29]) (.cond (Ut 30) (Sq (Rg [Uo 6 (.mov (.lit (.bool false)))]) .ret) .skip))))) (Rg [Ic 31 .add 17 1,Um 17 31]))))
def F12 : AFun:={ fid:=16,nt:=32,rets:=[.tmp 6],body:=(Sq (Rg [Uo 6 (.mov (.lit (.bool false)))]) (Sq (Sq (Rg [Um 10 0,Ln 11 10,Um 12 1,Ln 13 12,Ib 14 .neq 11 13]) (.cond (Ut 14) (Sq (Rg [Uo 6 (.mov (.lit (.bool false)))]) .ret) .skip)) (Sq (Sq (Rg [Um 15 0,Ln 16 15,Uo 17 (.mov (Uk 0))]) (.block 0 (.mask [] [false,false,false,false,false,false,true] true (.loop (some [false,true,true,false,false,false,false,false,false,false,false,false,false,false,false,true,true,true]) true bIl)))) (Sq (Rg [Uo 6 (.mov (.lit (.bool true)))]) .ret)))) }
def F13 : AFun:={ fid:=17,nt:=31,rets:=[.tmp 4],body:=(Sq (Rg [Uo 2 (.box (Ut 0)),Uo 3 (.box (Ut 1)),Uo 4 (.mov (.lit (.bool false)))]) (Sq (Rg [Fa 5 0 2,Lf 6 1 5,Fa 7 0 3,Lf 8 1 7,Ib 9 .eql 6 8,Um 10 9,Ug 11 10 true (.fieldAddr 1 (Ut 2)),Ug 12 10 true (.load false 1 (Ut 11)),Ug 13 10 true (.fieldAddr 1 (Ut 3)),Ug 14 10 true (.load false 1 (Ut 13)),Ug 15 10 true (.callB 22 [(Ut 12),(Ut 14)]),Pf 16 10 15,Um 17 16,Ug 18 17 true (.fieldAddr 3 (Ut 2)),Ug 19 17 true (.load false 1 (Ut 18)),Ug 20 17 true (.fieldAddr 3 (Ut 3)),Ug 21 17 true (.load false 1 (Ut 20)),Ug 22 17 true (.callB 22 [(Ut 19),(Ut 21)]),Pf 23 17 22,Um 24 23,Ug 25 24 true (.fieldAddr 2 (Ut 2)),Ug 26 24 true (.load false 1 (Ut 25)),Ug 27 24 true (.fieldAddr 2 (Ut 3)),Ug 28 24 true (.load false 1 (Ut 27)),Ug 29 24 true (.call false 23 [(Ut 26),(Ut 28),(.fn 24)]),Pf 30 24 29,Um 4 30]) .ret)) }
def F14 : AFun:={ fid:=18,nt:=33,rets:=[.tmp 2,.tmp 3,.tmp 4,.tmp 5],body:=(.mask [] [false,false,true,true,false,true] false (Sq (Rg [Uo 1 (.box (Ut 0)),Uo 2 (.movN (.lit nilS)),Uo 3 (.movN (.lit nilS)),Uo 4 (.mov (.lit (.map none))),Uo 5 (.mov (Uk 0))]) (Sq (Rg [La 9 3 1,Uo 10 (.callB 25 [(Ut 9)]),Um 8 10,Ex 11 8 0,Ex 12 8 1,Um 6 11,Um 5 12]) (Sq (Sq (Rg [Um 13 5,Ic 14 .neq 13 0]) (.cond (Ut 14) (Sq (Rg [Um 15 5,Uo 2 (.movN (.lit nilS)),Uo 3 (.movN (.lit nilS)),Uo 4 (.mov (.lit (.map none))),Um 5 15]) .ret) .skip)) (Sq (Rg [La 16 3 1,Uo 17 (.callB 26 [(Ut 16)]),Um 4 17]) (Sq (Rg [La 18 3 1,Um 19 6,Um 20 4,Uo 21 (.callB 27 [(Ut 18),(Ut 19),(Ut 20)]),Um 2 21]) (Sq (Rg [La 23 3 1,Um 24 2,Uo 25 (.callB 28 [(Ut 23),(Ut 24)]),Um 22 25,Ex 26 22 0,Ex 27 22 1,Um 3 26,Um 7 27]) (Sq (Sq (Rg [Um 28 7,Nt 29 28]) (.cond (Ut 29) (Sq (Rg [Uo 2 (.movN (.lit nilS)),Uo 3 (.movN (.lit nilS)),Uo 4 (.mov (.lit (.map none))),Uo 5 (.mov (Uk 12))]) .ret) .skip)) (Sq (Rg [Um 30 2,Um 31 3,Um 32 4,Um 2 30,Um 3 31,Um 4 32,Uo 5 (.mov (Uk 0))]) .ret))))))))) }
def F15 : AFun:={ fid:=19,nt:=28,rets:=[.tmp 2],body:=(Sq (Rg [Uo 1 (.box (Ut 0)),Uo 2 (.mov (Uk 0))]) (Sq (Sq (Rg [Fa 3 0 1,Lf 4 1 3,Ic 5 .lss 4 1,Um 6 5,Ug 7 6 false (.fieldAddr 0 (Ut 1)),Ug 8 6 false (.load false 1 (Ut 7)),Ug 9 6 false (.ibin .gtr (Ut 8) (Uk 4)),Pt 10 6 9]) (.cond (Ut 10) (Sq .stop .ret) .skip)) (Sq (Sq (Rg [Fa 11 1 1,Lf 12 1 11,Fa 13 2 1,Lf 14 1 13,Uo 15 (.build [(.int .i64 0),(.int .i64 0)] [(0,1,(Ut 12)),(1,1,(Ut 14))]),Uo 16 (.callS 29 [(Ut 15)]),Nt 17 16,Um 18 17,Ug 19 18 false (.fieldAddr 3 (Ut 1)),Ug 20 18 false (.load false 1 (Ut 19)),Ug 21 18 false (.ibin .lss (Ut 20) (Uk 1)),Pt 22 18 21,Um 23 22,Ug 24 23 false (.fieldAddr 3 (Ut 1)),Ug 25 23 false (.load false 1 (Ut 24)),Ug 26 23 false (.ibin .gtr (Ut 25) (Uk 524288)),Pt 27 23 26]) (.cond (Ut 27) (Sq .stop .ret) .skip)) (Sq (Rg [Uo 2 (.mov (Uk 0))]) .ret)))) }
def F16 : AFun:={ fid:=20,nt:=8,rets:=[.tmp 2],body:=(Sq (Rg [Uo 2 (.mov (.lit nilS))]) (.nilIf 0 3 4 (Sq .stop .ret) (Sq (Rg [Uo 5 (.buildSl true 1 0 [(.int .i64 0)] []),Um 6 0,Uo 7 (.append 1 8 (Ut 5) (Ut 6)),Um 2 7]) .ret))) }
def bLz : ACode:=(Sq (Rg [Ib 13 .lss 12 11]) (Sq (.cond (Ut 13) .skip (.exit 0)) (Sq (.block 1 (Sq (Rg [Ia 14 2 10 12,La 15 2 14,Uo 7 (.alloc [(.int .i64 0),(.int .i64 0)]),⟨none,.store 2 (Ut 7) (Ut 15),none⟩]) (Sq (Rg [La 17 4 2,La 18 2 7,Uo 19 (.call true 30 [(Ut 17),(Ut 18)]),Um 16 19,Ex 20 16 0,Ex 21 16 1,Uo 8 (.alloc [(.int .i64 0),(.int .i64 0)]),⟨none,.store 2 (Ut 8) (Ut 20),none⟩,Um 9 21]) (Sq (Sq (Rg [Um 22 9,Ic 23 .neq 22 0]) (.cond (Ut 23) (Sq .stop .ret) .skip)) (Rg [Um 25 4,La 26 2 8,Uo 27 (.buildSl true 2 1 [(.int .i64 0),(.int .i64 0)] [(0,(Ut 26))]),Uo 28 (.append 2 16 (Ut 25) (Ut 27)),Um 4 28]))))) (Rg [Ic 29 .add 12 1,Um 12 29]))))
def F17 : AFun:={ fid:=21,nt:=31,rets:=[.tmp 4,.tmp 5],body:=(Sq (Rg [Uo 2 (.box (Ut 0)),Uo 4 (.claim 2),Uo 5 (.mov (Uk 0))]) (Sq (Sq (Rg [Um 10 1,Ln 11 10,Uo 12 (.mov (Uk 0))]) (.block 0 (.mask [false,false,false,false,true] [false,false,false,false,true,true] false (.loop (some [false,false,true,false,true,false,false,false,false,false,true,true,true]) false bLz)))) (Sq (Rg [Um 30 4,Um 4 30,Uo 5 (.mov (Uk 0))]) .ret))) }
def bLy : ACode:=(Sq (Rg [Ib 14 .lss 13 12]) (Sq (.cond (Ut 14) .skip (.exit 0)) (Sq (.block 1 (Sq (Rg [Ia 15 2 11 13,La 16 2 15,Uo 9 (.alloc [(.int .i64 0),(.int .i64 0)]),⟨none,.store 2 (Ut 9) (Ut 16),none⟩]) (Sq (Sq (Rg [La 17 2 9,La 18 2 7,Uo 19 (.bin .neq 46 (Ut 17) (Ut 18))]) (.cond (Ut 19) (Rg [Um 20 6,La 21 2 9,Uo 22 (.buildSl true 2 1 [(.int .i64 0),(.int .i64 0)] [(0,(Ut 21))]),Uo 23 (.append 2 16 (Ut 20) (Ut 22)),Um 6 23]) .skip)) (Rg [La 24 2 9,⟨none,.store 2 (Ut 7) (Ut 24),none⟩])))) (Rg [Ic 25 .add 13 1,Um 13 25]))))
def bLx : ACode:=(Sq (Sq (.region true [] [Um 26 6,Ln 27 26,Ic 28 .gtr 27 0,Um 29 28,Un 30 6 29 true,Un 31 6 29 true,Ug 32 29 true (.lenS (Ut 31)),Ug 33 29 true (.ibin .sub (Ut 32) (Uk 1)),Ug 34 29 true (.idxAddr 2 (Ut 30) (Ut 33)),Ug 35 29 true (.load true 2 (Ut 34)),Ug 36 29 true (.load true 2 (Ut 5)),Ug 37 29 true (.bin .eql 46 (Ut 35) (Ut 36)),Pf 38 29 37]) (.cond (Ut 38) .skip (.exit 2))) (.block 3 .stop))
def F18 : AFun:={ fid:=22,nt:=45,rets:=[.tmp 6],body:=(Sq (Rg [Uo 4 (.box (Ut 1)),Uo 5 (.box (Ut 2)),Uo 6 (.claim 2)]) (Sq (Rg [La 10 2 4,Uo 7 (.alloc [(.int .i64 0),(.int .i64 0)]),⟨none,.store 2 (Ut 7) (Ut 10),none⟩]) (Sq (Sq (Rg [Um 11 0,Ln 12 11,Uo 13 (.mov (Uk 0))]) (.block 0 (.mask [false,false,false,false,false,true,true] [false,false,false,false,false,false,true] false (.loop (some [false,false,false,false,false,true,true,true,false,false,false,true,true,true]) false bLy)))) (Sq (.block 2 (.mask [false,false,false,false,false,false,true] [false,false,false,false,false,false,true] false (.loop (some [false,false,false,false,false,true,true]) false bLx))) (Sq (Rg [Um 44 6,Um 6 44]) .ret))))) }
def F19 : AFun:={ fid:=23,nt:=14,rets:=[],body:=.stop }
def F20 : AFun:={ fid:=24,nt:=10,rets:=[.tmp 4],body:=(Sq (Rg [Uo 2 (.box (Ut 0)),Uo 3 (.box (Ut 1)),Uo 4 (.mov (Uk 0))]) (Sq (Rg [Fa 5 0 2,Lf 6 1 5,Fa 7 0 3,Lf 8 1 7,Uo 9 (.callB 31 [(Ut 6),(Ut 8)]),Um 4 9]) .ret)) }
def F21 : AFun:={ fid:=15,nt:=14,rets:=[.cell 2 5 true],body:=(Sq (Rg [Uo 1 (.box (Ut 0)),Uo 2 (.alloc [(.int .i64 0),(.int .i64 0),(.int .i64 0),(.int .i64 0),(.int .i64 0)])]) (Sq (Rg [Fa 3 0 1,Lf 4 1 3,Fa 5 1 1,Lf 6 1 5,Fa 7 2 1,Lf 8 1 7,Fa 9 4 1,Lf 10 1 9,Fa 11 5 1,Lf 12 1 11,Uo 13 (.build [(.int .i64 0),(.int .i64 0),(.int .i64 0),(.int .i64 0),(.int .i64 0)] [(0,1,(Ut 4)),(1,1,(Ut 6)),(2,1,(Ut 8)),(3,1,(Ut 10)),(4,1,(Ut 12))]),⟨none,.store 5 (Ut 2) (Ut 13),none⟩]) .ret)) }
def bIk : ACode:=(Sq (Rg [Ib 14 .lss 13 12]) (Sq (.cond (Ut 14) .skip (.exit 0)) (Sq (.block 1 (Sq (Rg [Um 15 13,Um 5 15]) (Sq (.region true [] [Um 16 0,Um 17 5,Ia 18 1 16 17,Lf 19 1 18,Um 20 1,Um 21 5,Ia 22 1 20 21,Lf 23 1 22,Ib 24 .neq 19 23]) (.cond (Ut 24) (Sq (Rg [Uo 4 (.mov (.lit (.bool false)))]) .ret) .skip)))) (Rg [Ic 25 .add 13 1,Um 13 25]))))
def F22 : AFun:={ fid:=26,nt:=26,rets:=[.tmp 4],body:=(Sq (Rg [Uo 4 (.mov (.lit (.bool false)))]) (Sq (Sq (Rg [Um 6 0,Ln 7 6,Um 8 1,Ln 9 8,Ib 10 .neq 7 9]) (.cond (Ut 10) (Sq (Rg [Uo 4 (.mov (.lit (.bool false)))]) .ret) .skip)) (Sq (Sq (Rg [Um 11 0,Ln 12 11,Uo 13 (.mov (Uk 0))]) (.block 0 (.mask [] [false,false,false,false,true] false (.loop (some [true,true,false,false,false,false,false,false,false,false,false,false,true,true]) false bIk)))) (Sq (Rg [Uo 4 (.mov (.lit (.bool true)))]) .ret)))) }
def bIj : ACode:=(Sq (Rg [Ib 18 .lss 17 16]) (Sq (.cond (Ut 18) .skip (.exit 0)) (Sq (.block 1 (Sq (Rg [Um 19 17,Ia 20 1 15 17,Lf 21 1 20,Um 7 19,Um 8 21]) (Sq (Rg [Um 22 1,Um 23 7,Ia 24 1 22 23,Lf 25 1 24,Um 9 25]) (Sq (Rg [Um 26 2,Um 27 8,Um 28 9,Uo 29 (.callv false (Ut 26) [(Ut 27),(Ut 28)]),Nt 30 29]) (.cond (Ut 30) (Sq (Rg [Uo 6 (.mov (.lit (.bool false)))]) .ret) .skip))))) (Rg [Ic 31 .add 17 1,Um 17 31]))))
def F23 : AFun:={ fid:=27,nt:=32,rets:=[.tmp 6],body:=(Sq (Rg [Uo 6 (.mov (.lit (.bool false)))]) (Sq (Sq (Rg [Um 10 0,Ln 11 10,Um 12 1,Ln 13 12,Ib 14 .neq 11 13]) (.cond (Ut 14) (Sq (Rg [Uo 6 (.mov (.lit (.bool false)))]) .ret) .skip)) (Sq (Sq (Rg [Um 15 0,Ln 16 15,Uo 17 (.mov (Uk 0))]) (.block 0 (.mask [] [false,false,false,false,false,false,true] true (.loop (some [false,true,true,false,false,false,false,false,false,false,false,false,false,false,false,true,true,true]) true bIj)))) (Sq (Rg [Uo 6 (.mov (.lit (.bool true)))]) .ret)))) }
def F24 : AFun:={ fid:=28,nt:=8,rets:=[.tmp 4],body:=(Sq (Rg [Uo 4 (.mov (.lit (.bool false)))]) (Sq (Rg [Um 5 0,Um 6 1,Uo 7 (.callB 22 [(Ut 5),(Ut 6)]),Um 4 7]) .ret)) }
def bIh : ACode:=(Sq (Rg [Ib 35 .lss 34 33]) (Sq (.cond (Ut 35) .skip (.exit 2)) (Sq (.block 3 (Sq (Rg [Ia 36 1 32 34,Lf 37 1 36,Um 10 37]) (Sq (Rg [Um 38 4,Um 39 10,Uo 40 (.buildSl true 1 1 [(.int .i64 0)] [(0,(Ut 39))]),Uo 41 (.append 1 8 (Ut 38) (Ut 40)),Um 4 41]) (.region true [] [Lf 42 1 5,Um 43 10,Uo 44 (.un .neg (Ut 43)),Um 45 8,Um 46 10,Uo 47 (.callB 34 [(Ut 45),(Ut 46)]),⟨none,.mapUpd 3 (Ut 42) (Ut 44) (Ut 47),none⟩])))) (Rg [Ic 48 .add 34 1,Um 34 48]))))
def bIi : ACode:=(Sq (Rg [Ib 25 .lss 24 23]) (Sq (.cond (Ut 25) .skip (.exit 0)) (Sq (.block 1 (Sq (Rg [Ia 26 3 22 24,La 27 3 26,Uo 7 (.alloc [(.int .i64 0),(.int .i64 0),(.int .i64 0)]),⟨none,.store 3 (Ut 7) (Ut 27),none⟩]) (Sq (Rg [La 28 3 1,Fa 29 0 7,Lf 30 1 29,Uo 31 (.callB 33 [(Ut 28),(Ut 30)]),Um 8 31]) (Sq (Rg [Um 32 8,Ln 33 32,Uo 34 (.mov (Uk 0))]) (.block 2 (.mask [false,true,true,false,true,true,false,false,false,false,false,false,false,false,false,false,false,false,false,false,false,false,true,true,true] [false,false,true,true] false (.loop (some [false,true,true,false,true,true,false,false,true,false,false,false,false,false,false,false,false,false,false,false,false,false,true,true,true,false,false,false,false,false,false,false,true,true,true]) false bIh))))))) (Rg [Ic 49 .add 24 1,Um 24 49]))))
def bIg : ACode:=(Sq (Rg [Ib 57 .lss 56 55]) (Sq (.cond (Ut 57) .skip (.exit 4)) (Sq (.block 5 (Sq (Rg [Ia 58 1 54 56,Lf 59 1 58,Um 14 59]) (Sq (Rg [Lf 60 1 11,Um 61 14,Uo 62 (.lookup 3 (.lit (.bool false)) (Ut 60) (Ut 61) false),Nt 63 62]) (.cond (Ut 63) (Rg [Um 64 2,Um 65 12,Um 66 14,Uo 67 (.callv false (Ut 65) [(Ut 66)]),Uo 68 (.buildSl true 1 1 [nilS] [(0,(Ut 67))]),Uo 69 (.append 1 24 (Ut 64) (Ut 68)),Um 2 69]) .skip)))) (Rg [Ic 70 .add 56 1,Um 56 70]))))
def F25 : AFun:={ fid:=29,nt:=72,rets:=[.tmp 2,.tmp 3],body:=(Sq (Rg [Uo 1 (.box (Ut 0)),Uo 2 (.claim 1),Uo 3 (.mov (Uk 0))]) (Sq (Sq (Rg [La 15 3 1,Uo 16 (.callB 32 [(Ut 15)]),Um 3 16]) (Sq (Rg [Um 17 3,Ic 18 .neq 17 0]) (.cond (Ut 18) (Sq (Rg [Um 19 3,Uo 2 (.movN (.lit nilS)),Um 3 19]) .ret) .skip))) (Sq (Rg [Uo 4 (.claim 1)]) (Sq (Rg [Uo 20 (.mkMap),Uo 5 (.alloc [(.map none)]),⟨none,.store 1 (Ut 5) (Ut 20),none⟩]) (Sq (Sq (Rg [Fa 21 0 1,Lf 22 1 21,Ln 23 22,Uo 24 (.mov (Uk 0))]) (.block 0 (.mask [false,false,true,false,true,true] [false,false,true,true] true (.loop (some [false,true,true,false,true,true,false,false,false,false,false,false,false,false,false,false,false,false,false,false,false,false,true,true,true]) true bIi)))) (Sq (Rg [Um 50 4,Uo 51 (.call false 35 [(Ut 50)])]) (Sq (Rg [Uo 52 (.mkMap),Uo 11 (.alloc [(.map none)]),⟨none,.store 1 (Ut 11) (Ut 52),none⟩]) (Sq (Rg [Uo 53 (.mkFn 36 [(Ut 11),(Ut 5)]),Um 12 53]) (Sq (Sq (.frz 4 (Rg [Um 54 4,Ln 55 54,Uo 56 (.mov (Uk 0))])) (.block 4 (.mask [false,false,true] [false,false,true,true] true (.loop (some [false,false,true,false,false,false,false,false,false,false,false,true,true,false,false,false,false,false,false,false,false,false,false,false,false,false,false,false,false,false,false,false,false,false,false,false,false,false,false,false,false,false,false,false,false,false,false,false,false,false,false,false,false,false,true,true,true]) true bIg)))) (Sq (Rg [Um 71 2,Um 2 71,Uo 3 (.mov (Uk 0))]) .ret)))))))))) }
def bIf : ACode:=(Sq (Rg [Ib 13 .lss 12 11]) (Sq (.cond (Ut 13) .skip (.exit 0)) (Sq (.block 1 (Sq (Rg [Ia 14 6 10 12,La 15 6 14,Uo 5 (.alloc [(.int .i64 0),(.int .i64 0),(.int .i64 0),nilS,(.int .i64 0),(.int .i64 0)]),⟨none,.store 6 (Ut 5) (Ut 15),none⟩]) (Sq (Rg [La 17 3 1,Fa 18 0 5,Lf 19 1 18,Uo 20 (.callB 37 [(Ut 17),(Ut 19)]),Um 16 20,Ex 21 16 0,Ex 22 16 1,Um 6 21,Um 7 22]) (Sq (Rg [Um 23 7,Ic 24 .eql 23 0]) (.cond (Ut 24) (Rg [Um 25 3,Fa 26 0 5,Lf 27 1 26,Um 28 6,⟨none,.mapUpd 3 (Ut 25) (Ut 27) (Ut 28),none⟩]) .skip))))) (Rg [Ic 29 .add 12 1,Um 12 29]))))
def F26 : AFun:={ fid:=30,nt:=31,rets:=[.tmp 2],body:=(Sq (Rg [Uo 1 (.box (Ut 0)),Uo 2 (.mov (.lit (.map none)))]) (Sq (Rg [Uo 8 (.mkMap),Um 3 8]) (Sq (Sq (Rg [Fa 9 1 1,Lf 10 1 9,Ln 11 10,Uo 12 (.mov (Uk 0))]) (.block 0 (.mask [false,false,false,true] [false,false,true] true (.loop (some [false,true,false,true,false,false,false,false,false,false,true,true,true]) true bIf)))) (Sq (Rg [Um 30 3,Um 2 30]) .ret)))) }
def bIe : ACode:=(Sq (Rg [Ib 24 .lss 23 22]) (Sq (.cond (Ut 24) .skip (.exit 0)) (Sq (.block 1 (Sq (Rg [Ia 25 1 21 23,Lf 26 1 25,Um 10 26]) (Sq (Rg [La 27 3 3,Um 28 10,Uo 29 (.callB 38 [(Ut 27),(Ut 28)]),Um 11 29]) (Sq (Rg [Um 30 11,Ic 31 .gtr 30 0]) (.cond (Ut 31) (Rg [Um 32 7,Um 33 11,Um 34 10,Uo 35 (.build [(.int .i64 0),nilS,nilS,nilS] [(0,1,(Ut 33)),(1,1,(Ut 34))]),Uo 36 (.buildSl false 4 1 [(.int .i64 0),nilS,nilS,nilS] [(0,(Ut 35))]),Uo 37 (.append 4 80 (Ut 32) (Ut 36)),Um 7 37]) (Rg [Um 38 8,Um 39 10,Uo 40 (.buildSl true 1 1 [nilS] [(0,(Ut 39))]),Uo 41 (.append 1 24 (Ut 38) (Ut 40)),Um 8 41])))))) (Rg [Ic 42 .add 23 1,Um 23 42]))))
def bBg : ACode:=(Sq (Rg [Ib 46 .lss 45 44]) (Sq (.cond (Ut 46) .skip (.exit 2)) (Sq (.block 3 (Sq (Rg [Ia 47 1 43 45,Lf 48 1 47,Um 13 48]) (Sq (.region true [] [Um 49 2,Um 50 13,Uo 51 (.idxAddr 1 (Ut 50) (Uk 0)),Lf 52 1 51,Um 53 13,Uo 54 (.idxAddr 1 (Ut 53) (Uk 0)),Lf 55 1 54,Uo 56 (.un .neg (Ut 55)),Uo 57 (.minmax true [(Ut 52),(Ut 56)]),Uo 58 (.lookup 3 (.lit nilS) (Ut 49) (Ut 57) false),Um 14 58]) (Sq (Rg [Um 59 2,Um 60 7,Um 61 14,Uo 62 (.idxAddr 2 (Ut 61) (Uk 0)),La 63 2 62,Uo 64 (.callB 39 [(Ut 59),(Ut 60),(Ut 63)]),Um 15 64]) (Rg [Um 65 7,Um 66 15,Um 67 7,Um 68 15,Ia 69 4 67 68,Fa 70 2 69,Lf 71 1 70,Um 72 13,Uo 73 (.buildSl true 1 1 [nilS] [(0,(Ut 72))]),Uo 74 (.append 1 24 (Ut 71) (Ut 73)),Ia 75 4 65 66,Fa 76 2 75,⟨none,.store 1 (Ut 76) (Ut 74),none⟩]))))) (Rg [Ic 77 .add 45 1,Um 45 77]))))
def aVp : ACode:=(Sq (Rg [Ib 82 .lss 81 80]) (Sq (.cond (Ut 82) .skip (.exit 4)) (Sq (.block 5 (Sq (Rg [Ia 83 3 79 81,La 84 3 83,Uo 17 (.alloc [(.int .i64 0),(.int .i64 0),(.int .i64 0)]),⟨none,.store 3 (Ut 17) (Ut 84),none⟩]) (Sq (Rg [La 85 3 3,Fa 86 0 17,Lf 87 1 86,Uo 88 (.callB 40 [(Ut 85),(Ut 87)]),Ic 89 .eql 88 0]) (.cond (Ut 89) (Sq (Rg [Um 90 2,Um 91 7,Fa 92 1 17,La 93 2 92,Uo 94 (.callB 39 [(Ut 90),(Ut 91),(Ut 93)]),Um 18 94]) (.region true [] [Um 95 7,Um 96 18,Um 97 7,Um 98 18,Ia 99 4 97 98,Fa 100 3 99,Lf 101 1 100,Fa 102 0 17,Lf 103 1 102,Uo 104 (.buildSl true 1 1 [(.int .i64 0)] [(0,(Ut 103))]),Uo 105 (.append 1 8 (Ut 101) (Ut 104)),Ia 106 4 95 96,Fa 107 3 106,⟨none,.store 1 (Ut 107) (Ut 105),none⟩])) .skip)))) (Rg [Ic 108 .add 81 1,Um 81 108]))))
def F27 : AFun:={ fid:=31,nt:=110,rets:=[.tmp 6],body:=(Sq (Rg [Uo 3 (.box (Ut 0)),Uo 6 (.movN (.lit nilS))]) (Sq (Rg [Uo 19 (.build [(.int .i64 0),nilS,nilS,nilS] []),Uo 20 (.buildSl false 4 1 [(.int .i64 0),nilS,nilS,nilS] [(0,(Ut 19))]),Um 7 20]) (Sq (Rg [Uo 8 (.claim 1)]) (Sq (Sq (Rg [Um 21 1,Ln 22 21,Uo 23 (.mov (Uk 0))]) (.block 0 (.mask [false,false,true,true,false,false,false,true,true] [false,false,false,false,false,false,true] true (.loop (some [false,false,true,true,false,false,false,true,true,false,false,false,false,false,false,false,false,false,false,false,false,true,true,true]) true bIe)))) (Sq (Sq (Rg [Um 43 8,Ln 44 43,Uo 45 (.mov (Uk 0))]) (.block 2 (.mask [false,false,true,true,false,false,false,true] [false,false,false,false,false,false,true] false (.loop (some [false,false,true,true,false,false,false,true,false,false,false,false,false,false,false,false,false,false,false,false,false,false,false,false,false,false,false,false,false,false,false,false,false,false,false,false,false,false,false,false,false,false,false,true,true,true]) false bBg)))) (Sq (Sq (Rg [Fa 78 0 3,Lf 79 1 78,Ln 80 79,Uo 81 (.mov (Uk 0))]) (.block 4 (.mask [false,false,false,false,false,false,false,true] [false,false,false,false,false,false,true] false (.loop (some [false,false,true,true,false,false,false,true,false,false,false,false,false,false,false,false,false,false,false,false,false,false,false,false,false,false,false,false,false,false,false,false,false,false,false,false,false,false,false,false,false,false,false,false,false,false,false,false,false,false,false,false,false,false,false,false,false,false,false,false,false,false,false,false,false,false,false,false,false,false,false,false,false,false,false,false,false,false,false,true,true,true]) false aVp)))) (Sq (Rg [Um 109 7,Um 6 109]) .ret))))))) }
def bIc : ACode:=(Rg [Um 30 9,Ic 31 .eql 30 0,Um 32 31,Un 33 6 32 false,Un 34 9 32 false,Ug 35 32 false (.lookup 3 (.lit (.bool false)) (Ut 33) (Ut 34) false),Pt 36 32 35])
def bE8 : ACode:=(Sq (Rg [Ib 49 .lss 48 47]) (Sq (.cond (Ut 49) .skip (.exit 4)) (Sq (.block 5 (Sq (Rg [Ia 50 1 46 48,Lf 51 1 50,Um 13 51]) (Sq (Rg [La 52 3 2,Um 53 13,Uo 54 (.callB 41 [(Ut 52),(Ut 53)]),Um 55 9,Ib 56 .neq 54 55]) (.cond (Ut 56) (Sq (Rg [Uo 4 (.movN (.lit nilS)),Uo 5 (.mov (.lit (.bool false)))]) .ret) .skip)))) (Rg [Ic 57 .add 48 1,Um 48 57]))))
def bE9 : ACode:=(Sq (Rg [Ib 43 .lss 42 41]) (Sq (.cond (Ut 43) .skip (.exit 2)) (Sq (.block 3 (Sq (Rg [Ia 44 1 40 42,Lf 45 1 44,Um 11 45]) (Sq (Rg [Um 46 11,Ln 47 46,Uo 48 (.mov (Uk 0))]) (.block 4 (.mask [false,false,true,false,true,false,true,false,false,true,false,false,false,false,false,true,true,true,false,false,false,false,false,false,false,false,false,false,false,false,false,false,false,false,false,false,false,false,false,false,true,true,true] [false,false,false,false,true,true] false (.loop (some [false,false,true,false,true,false,true,false,false,true,false,false,false,false,false,true,true,true,false,false,false,false,false,false,false,false,false,false,false,false,false,false,false,false,false,false,false,false,false,false,true,true,true,false,false,false,true,true,true]) false bE8)))))) (Rg [Ic 58 .add 42 1,Um 42 58]))))
def bId : ACode:=(Sq (Rg [Ib 18 .lss 17 16]) (Sq (.cond (Ut 18) .skip (.exit 0)) (Sq (.block 1 (Sq (Rg [Um 19 17,Ia 20 4 15 17,La 21 4 20,Uo 8 (.alloc [(.int .i64 0),nilS,nilS,nilS]),Um 7 19,⟨none,.store 4 (Ut 8) (Ut 21),none⟩]) (Sq (Rg [Uo 9 (.mov (Uk 0))]) (Sq (Sq (Rg [Um 22 7,Ic 23 .gtr 22 0]) (.cond (Ut 23) (Sq (.region true [] [La 24 3 2,Fa 25 1 8,Lf 26 1 25,Uo 27 (.idxAddr 1 (Ut 26) (Uk 0)),Lf 28 1 27,Uo 29 (.callB 41 [(Ut 24),(Ut 28)]),Um 9 29]) (Sq (Sq (.told [false,false,true,false,true,false,true,false,true,true,false,false,false,false,false,true,true,true] [false,false,true,false,true,false,true,false,true,true,false,false,false,false,false,true,true,true,false,false,false,false,false,false,false,false,false,false,false,false,false,false,false,false,false,false,true] [false,false,false,false,true,true] bIc) (.cond (Ut 36) (Sq (Rg [Uo 4 (.movN (.lit nilS)),Uo 5 (.mov (.lit (.bool false)))]) .ret) .skip)) (Rg [Um 37 6,Um 38 9,⟨none,.mapUpd 3 (Ut 37) (Ut 38) (.lit (.bool true)),none⟩]))) .skip)) (Sq (Sq (Rg [La 39 4 8,Uo 40 (.call true 42 [(Ut 39)]),Ln 41 40,Uo 42 (.mov (Uk 0))]) (.block 2 (.mask [false,false,true,false,true,false,true,false,false,true,false,false,false,false,false,true,true,true] [false,false,false,false,true,true] false (.loop (some [false,false,true,false,true,false,true,false,false,true,false,false,false,false,false,true,true,true,false,false,false,false,false,false,false,false,false,false,false,false,false,false,false,false,false,false,false,false,false,false,true,true,true]) false bE9)))) (Rg [Um 59 4,Um 60 9,Uo 61 (.buildSl true 1 1 [(.int .i64 0)] [(0,(Ut 60))]),Uo 62 (.append 1 8 (Ut 59) (Ut 61)),Um 4 62])))))) (Rg [Ic 63 .add 17 1,Um 17 63]))))
def F28 : AFun:={ fid:=32,nt:=71,rets:=[.tmp 4,.tmp 5],body:=(Sq (Rg [Uo 2 (.box (Ut 0)),Uo 4 (.claim 1),Uo 5 (.mov (.lit (.bool false)))]) (Sq (Rg [Uo 14 (.mkMap),Um 6 14]) (Sq (Sq (Rg [Um 15 1,Ln 16 15,Uo 17 (.mov (Uk 0))]) (.block 0 (.mask [false,false,true,false,true,false,true] [false,false,false,false,true,true] true (.loop (some [false,false,true,false,true,false,true,false,false,false,false,false,false,false,false,true,true,true]) true bId)))) (Sq (.region true [] [Um 64 4,Um 65 6,Uo 66 (.lenM (Ut 65)),Fa 67 2 2,Lf 68 1 67,Ln 69 68,Ib 70 .eql 66 69,Um 4 64,Um 5 70]) .ret)))) }
def F29 : AFun:={ fid:=33,nt:=21,rets:=[.tmp 2],body:=(Sq (Rg [Uo 1 (.box (Ut 0)),Uo 2 (.mov (.lit (.bool false)))]) (Sq (Rg [Fa 3 0 1,Lf 4 1 3,Uo 5 (.ibin .leq (Uk (-648000)) (Ut 4)),Um 6 5,Ug 7 6 true (.fieldAddr 0 (Ut 1)),Ug 8 6 true (.load false 1 (Ut 7)),Ug 9 6 true (.ibin .leq (Ut 8) (Uk 648000)),Pf 10 6 9,Um 11 10,Ug 12 11 true (.fieldAddr 1 (Ut 1)),Ug 13 11 true (.load false 1 (Ut 12)),Ug 14 11 true (.ibin .leq (Uk (-306000)) (Ut 13)),Pf 15 11 14,Um 16 15,Ug 17 16 true (.fieldAddr 1 (Ut 1)),Ug 18 16 true (.load false 1 (Ut 17)),Ug 19 16 true (.ibin .leq (Ut 18) (Uk 306000)),Pf 20 16 19,Um 2 20]) .ret)) }
def F30 : AFun:={ fid:=34,nt:=19,rets:=[.cell 4 2 true,.tmp 5],body:=(Sq (Rg [Uo 2 (.box (Ut 0)),Uo 3 (.box (Ut 1)),Uo 4 (.alloc [(.int .i64 0),(.int .i64 0)]),Uo 5 (.mov (Uk 0))]) (Sq (Sq (Rg [La 6 4 2,Uo 7 (.callS 15 [(Ut 6)]),Um 5 7]) (Sq (Rg [Um 8 5,Ic 9 .neq 8 0]) (.cond (Ut 9) (Sq .stop .ret) .skip))) (Sq (.region true [(0,2),(3,2)] [La 12 4 2,La 13 4 2,Uo 14 (.callF 43 [(Ut 13)]),La 15 2 3,Uo 16 (.call true 44 [(Ut 12),(Ut 14),(Ut 15)]),Ex 17 16 0,Ex 18 16 1,⟨none,.store 2 (Ut 4) (Ut 17),none⟩,Um 5 18]) .ret))) }
def F31 : AFun:={ fid:=25,nt:=20,rets:=[.tmp 4],body:=(Sq (Rg [Uo 4 (.mov (Uk 0))]) (Sq (Rg [Um 7 0,Uo 8 (.callB 45 [(Ut 7)]),Um 5 8]) (Sq (Rg [Um 9 1,Uo 10 (.callB 45 [(Ut 9)]),Um 6 10]) (Sq (Sq (Rg [Um 11 5]) (.cond (Ut 11) (Sq (Sq (Rg [Um 12 6]) (.cond (Ut 12) (Sq (Rg [Uo 4 (.mov (Uk 0))]) .ret) .skip)) (Sq (Rg [Uo 4 (.mov (Uk (-1)))]) .ret)) .skip)) (Sq (Sq (Rg [Um 13 6]) (.cond (Ut 13) (Sq (Rg [Uo 4 (.mov (Uk 1))]) .ret) .skip)) (Sq (Sq (Rg [Um 14 0,Um 15 1,Ib 16 .lss 14 15]) (.cond (Ut 16) (Sq (Rg [Uo 4 (.mov (Uk (-1)))]) .ret) .skip)) (Sq (Sq (Rg [Um 17 0,Um 18 1,Ib 19 .gtr 17 18]) (.cond (Ut 19) (Sq (Rg [Uo 4 (.mov (Uk 1))]) .ret) .skip)) (Sq (Rg [Uo 4 (.mov (Uk 0))]) .ret)))))))) }
def bIb : ACode:=(Rg [Fa 7 0 1,Lf 8 1 7,Ln 9 8,Ic 10 .gtr 9 256,Um 11 10,Ug 12 11 false (.fieldAddr 1 (Ut 1)),Ug 13 11 false (.load false 1 (Ut 12)),Ug 14 11 false (.lenS (Ut 13)),Ug 15 11 false (.ibin .gtr (Ut 14) (Uk 256)),Pt 16 11 15,Um 17 16,Ug 18 17 false (.fieldAddr 2 (Ut 1)),Ug 19 17 false (.load false 1 (Ut 18)),Ug 20 17 false (.lenS (Ut 19)),Ug 21 17 false (.ibin .gtr (Ut 20) (Uk 64)),Pt 22 17 21])
def bIa : ACode:=(Sq (Rg [Ib 27 .lss 26 25]) (Sq (.cond (Ut 27) .skip (.exit 0)) (Sq (.block 1 (Sq (Rg [Ia 28 6 24 26,La 29 6 28,Uo 4 (.alloc [(.int .i64 0),(.int .i64 0),(.int .i64 0),nilS,(.int .i64 0),(.int .i64 0)]),⟨none,.store 6 (Ut 4) (Ut 29),none⟩]) (Sq (Rg [Fa 30 3 4,Lf 31 1 30,Ln 32 31,Ic 33 .gtr 32 64]) (.cond (Ut 33) (Sq (Rg [Uo 2 (.mov (Uk 3))]) .ret) .skip)))) (Rg [Ic 34 .add 26 1,Um 26 34]))))
def bH9 : ACode:=(Rg [Um 40 5,Uo 41 (.callB 47 [(Ut 40)]),Nt 42 41,Um 43 42,Un 44 6 43 false,Ug 45 43 false (.callB 47 [(Ut 44)]),Ug 46 43 false (.un .not (Ut 45)),Pt 47 43 46,Um 48 47,Ug 49 48 false (.fieldAddr 2 (Ut 1)),Ug 50 48 false (.load false 1 (Ut 49)),Ug 51 48 false (.callB 47 [(Ut 50)]),Ug 52 48 false (.un .not (Ut 51)),Pt 53 48 52])
def bH8 : ACode:=(Rg [Um 54 5,Uo 55 (.callB 48 [(Ut 54)]),Nt 56 55,Um 57 56,Un 58 6 57 false,Ug 59 57 false (.callB 48 [(Ut 58)]),Ug 60 57 false (.un .not (Ut 59)),Pt 61 57 60,Um 62 61,Ug 63 62 false (.fieldAddr 2 (Ut 1)),Ug 64 62 false (.load false 1 (Ut 63)),Ug 65 62 false (.callB 48 [(Ut 64)]),Ug 66 62 false (.un .not (Ut 65)),Pt 67 62 66,Um 68 67,Ug 69 68 false (.load true 3 (Ut 1)),Ug 70 68 false (.callB 49 [(Ut 69)]),Ug 71 68 false (.un .not (Ut 70)),Pt 72 68 71])
def F32 : AFun:={ fid:=38,nt:=82,rets:=[.tmp 2],body:=(Sq (Rg [Uo 1 (.box (Ut 0)),Uo 2 (.mov (Uk 0))]) (Sq (Sq (.told [false,true] [false,true,false,false,false,false,false,false,false,false,false,false,false,false,false,false,false,false,false,false,false,false,true] [false,false,true] bIb) (.cond (Ut 22) (Sq (Rg [Uo 2 (.mov (Uk 3))]) .ret) .skip)) (Sq (Sq (Rg [Fa 23 1 1,Lf 24 1 23,Ln 25 24,Uo 26 (.mov (Uk 0))]) (.block 0 (.mask [false,true] [false,false,true] true (.loop (some [false,true,false,false,false,false,false,false,false,false,false,false,false,false,false,false,false,false,false,false,false,false,false,false,true,true,true]) true bIa)))) (Sq (Rg [La 36 3 1,Uo 37 (.callB 46 [(Ut 36)]),Um 35 37,Ex 38 35 0,Ex 39 35 1,Um 5 38,Um 6 39]) (Sq (Sq (.told [false,true,false,false,false,true,true] [false,true,false,false,false,true,true,false,false,false,false,false,false,false,false,false,false,false,false,false,false,false,false,false,false,false,false,false,false,false,false,false,false,false,false,false,false,false,false,false,false,false,false,false,false,false,false,false,false,false,false,false,false,true] [false,false,true] bH9) (.cond (Ut 53) (Sq (Rg [Uo 2 (.mov (Uk 10))]) .ret) .skip)) (Sq (Sq (.told [false,true,false,false,false,true,true] [false,true,false,false,false,true,false,false,false,false,false,false,false,false,false,false,false,false,false,false,false,false,false,false,false,false,false,false,false,false,false,false,false,false,false,false,false,false,false,false,false,false,false,false,false,false,false,false,false,false,false,false,false,false,false,false,false,false,false,false,false,false,false,false,false,false,false,false,false,false,false,false,true] [false,false,true] bH8) (.cond (Ut 72) (Sq (Rg [Uo 2 (.mov (Uk 2))]) .ret) .skip)) (Sq (Sq (Rg [La 73 3 1,Um 74 5,Uo 75 (.callB 50 [(Ut 73),(Ut 74)]),Um 2 75]) (Sq (Rg [Um 76 2,Ic 77 .neq 76 0]) (.cond (Ut 77) (Sq (Rg [Um 78 2,Um 2 78]) .ret) .skip))) (Sq (Sq (Rg [La 79 3 1,Uo 80 (.callB 51 [(Ut 79)]),Nt 81 80]) (.cond (Ut 81) (Sq (Rg [Uo 2 (.mov (Uk 11))]) .ret) .skip)) (Sq (Rg [Uo 2 (.mov (Uk 0))]) .ret))))))))) }
def bH6 : ACode:=(Rg [Fa 30 1 10,Lf 31 1 30,Um 32 1,Ib 33 .neq 31 32,Um 34 33,Ug 35 34 true (.fieldAddr 2 (Ut 10)),Ug 36 34 true (.load false 1 (Ut 35)),Un 37 1 34 true,Ug 38 34 true (.ibin .neq (Ut 36) (Ut 37)),Pf 39 34 38])
def bH7 : ACode:=(Sq (Rg [Ib 27 .lss 26 25]) (Sq (.cond (Ut 27) .skip (.exit 0)) (Sq (.block 1 (Sq (Rg [Ia 28 6 24 26,La 29 6 28,Uo 10 (.alloc [(.int .i64 0),(.int .i64 0),(.int .i64 0),nilS,(.int .i64 0),(.int .i64 0)]),⟨none,.store 6 (Ut 10) (Ut 29),none⟩]) (Sq (Sq (.told [false,true,true,false,true,true,false,true,true,false,true,false,false,false,false,false,false,false,false,false,false,false,false,false,true,true,true] [false,true,true,false,true,true,false,true,true,false,true,false,false,false,false,false,false,false,false,false,false,false,false,false,true,true,true,false,false,false,false,false,false,false,false,false,false,false,false,true] [false,false,false,false,true] bH6) (.cond (Ut 39) (.exit 1) .skip)) (Sq (Rg [La 41 3 2,Fa 42 0 10,Lf 43 1 42,Uo 44 (.callB 37 [(Ut 41),(Ut 43)]),Um 40 44,Ex 45 40 0,Ex 46 40 1,Um 11 45,Um 12 46]) (Sq (Sq (Rg [Um 47 12,Ic 48 .neq 47 0]) (.cond (Ut 48) (.exit 1) .skip)) (Sq (Sq (Rg [Fa 49 1 10,Lf 50 1 49,Um 51 1,Ib 52 .eql 50 51]) (.cond (Ut 52) (.region true [] [Um 53 8,Fa 54 0 10,Lf 55 1 54,Um 56 11,Uo 57 (.idxAddr 2 (Ut 56) (Uk 1)),La 58 2 57,Uo 59 (.callv false (Ut 53) [(Ut 55),(Ut 58)])]) .skip)) (Sq (Rg [Fa 60 2 10,Lf 61 1 60,Um 62 1,Ib 63 .eql 61 62]) (.cond (Ut 63) (.region true [] [Um 64 8,Fa 65 0 10,Lf 66 1 65,Uo 67 (.un .neg (Ut 66)),Um 68 11,Um 69 11,Ln 70 69,Ic 71 .sub 70 2,Ia 72 2 68 71,La 73 2 72,Uo 74 (.callv false (Ut 64) [(Ut 67),(Ut 73)])]) .skip)))))))) (Rg [Ic 75 .add 26 1,Um 26 75]))))
def F33 : AFun:={ fid:=39,nt:=80,rets:=[.cell 4 1 false],body:=(Sq (Rg [Uo 2 (.box (Ut 0)),Uo 4 (.allocC [nilS] [(0,1)])]) (Sq (Rg [La 14 3 2,Um 15 1,Uo 16 (.callB 52 [(Ut 14),(Ut 15)]),Um 13 16,Ex 17 13 0,Ex 18 13 1,Uo 5 (.alloc [(.int .i64 0),(.int .i64 0),(.int .i64 0)]),⟨none,.store 3 (Ut 5) (Ut 17),none⟩,Um 6 18]) (Sq (Sq (Rg [Um 19 6,Nt 20 19]) (.cond (Ut 20) (Sq (Rg [⟨none,.store 1 (Ut 4) (.lit nilS),none⟩]) .ret) .skip)) (Sq (Rg [Uo 21 (.mkMap),Uo 7 (.alloc [(.map none)]),⟨none,.store 1 (Ut 7) (Ut 21),none⟩]) (Sq (Rg [Uo 22 (.mkFn 53 [(Ut 4),(Ut 7)]),Um 8 22]) (Sq (Sq (Rg [Fa 23 1 2,Lf 24 1 23,Ln 25 24,Uo 26 (.mov (Uk 0))]) (.block 0 (.mask [false,false,false,false,true,true,false,true] [false,false,false,false,true] true (.loop (some [false,true,true,false,true,true,false,true,true,false,false,false,false,false,false,false,false,false,false,false,false,false,false,false,true,true,true]) true bH7)))) (Sq (Rg [Lf 76 1 4,Uo 77 (.mkFn 54 [(Ut 5),(Ut 7)]),Uo 78 (.call false 55 [(Ut 76),(Ut 77)])]) (Sq (Rg [Lf 79 1 4,⟨none,.store 1 (Ut 4) (Ut 79),none⟩]) .ret)))))))) }
def F34 : AFun:={ fid:=40,nt:=22,rets:=[.tmp 4],body:=(Sq (Rg [Uo 4 (.mov (Uk 0))]) (Sq (Rg [Um 6 0,Um 7 1,Uo 8 (.callB 56 [(Ut 6),(Ut 7)]),Um 5 8]) (Sq (Sq (Rg [Um 9 5,Ic 10 .lss 9 0]) (.cond (Ut 10) (Sq (Rg [Uo 4 (.mov (Uk 0))]) .ret) .skip)) (Sq (Rg [Um 11 0,Um 12 5,Um 13 0,Ln 14 13,Ib 15 .add 12 14,Ic 16 .sub 15 1,Um 17 0,Ln 18 17,Uo 19 (.bin .rem 3 (Ut 16) (Ut 18)),Ia 20 1 11 19,Lf 21 1 20,Um 4 21]) .ret)))) }
def F35 : AFun:={ fid:=41,nt:=11,rets:=[],body:=.stop }
def bH5 : ACode:=(Sq (Sq (Rg [Lf 5 1 1,Um 6 0,Uo 7 (.lookup 3 (.lit (.bool false)) (Ut 5) (Ut 6) false),Nt 8 7]) (.cond (Ut 8) .skip (.exit 0))) (.block 1 (Sq (Rg [Lf 9 1 1,Um 10 0,⟨none,.mapUpd 3 (Ut 9) (Ut 10) (.lit (.bool true)),none⟩]) (Sq (Rg [Um 11 4,Um 12 0,Uo 13 (.buildSl true 1 1 [(.int .i64 0)] [(0,(Ut 12))]),Uo 14 (.append 1 8 (Ut 11) (Ut 13)),Um 4 14]) (Rg [Lf 15 1 2,Um 16 0,Uo 17 (.lookup 3 (Uk 0) (Ut 15) (Ut 16) false),Um 0 17])))))
def F36 : AFun:={ fid:=42,nt:=19,rets:=[.tmp 4],body:=(Sq (Rg [Uo 4 (.claim 1)]) (Sq (.block 0 (.mask [false,false,false,false,true] [false,false,false,false,true] false (.loop (some [true,true,true,false,true]) false bH5))) (Sq (.frz 4 (Rg [Um 18 4,Um 4 18])) .ret))) }
def aOl : ACode:=(Rg [Um 32 7,Nt 33 32,Um 34 33,Un 35 9 34 false,Ug 36 34 false (.un .not (Ut 35)),Pt 37 34 36,Um 38 37,Un 39 11 38 false,Ug 40 38 false (.un .not (Ut 39)),Pt 41 38 40])
def F37 : AFun:={ fid:=43,nt:=52,rets:=[.tmp 4,.tmp 5],body:=(Sq (Rg [Uo 2 (.box (Ut 0)),Uo 4 (.movN (.lit nilS)),Uo 5 (.mov (Uk 0))]) (Sq (Rg [La 13 3 2,Um 14 1,Uo 15 (.callB 57 [(Ut 13),(Ut 14)]),Um 12 15,Ex 16 12 0,Ex 17 12 1,Uo 6 (.alloc [(.int .i64 0),(.int .i64 0),(.int .i64 0),nilS,(.int .i64 0),(.int .i64 0)]),⟨none,.store 6 (Ut 6) (Ut 16),none⟩,Um 7 17]) (Sq (Rg [La 19 3 2,Fa 20 1 6,Lf 21 1 20,Uo 22 (.callB 52 [(Ut 19),(Ut 21)]),Um 18 22,Ex 23 18 0,Ex 24 18 1,Uo 8 (.alloc [(.int .i64 0),(.int .i64 0),(.int .i64 0)]),⟨none,.store 3 (Ut 8) (Ut 23),none⟩,Um 9 24]) (Sq (Rg [La 26 3 2,Fa 27 2 6,Lf 28 1 27,Uo 29 (.callB 52 [(Ut 26),(Ut 28)]),Um 25 29,Ex 30 25 0,Ex 31 25 1,Uo 10 (.alloc [(.int .i64 0),(.int .i64 0),(.int .i64 0)]),⟨none,.store 3 (Ut 10) (Ut 30),none⟩,Um 11 31]) (Sq (Sq (.told [false,false,false,false,false,false,true,true,true,true,true,true] [false,false,false,false,false,false,true,false,true,false,true,false,false,false,false,false,false,false,false,false,false,false,false,false,false,false,false,false,false,false,false,false,false,false,false,false,false,false,false,false,false,true] [false,false,false,false,true,true] aOl) (.cond (Ut 41) (Sq (Rg [Uo 4 (.movN (.lit nilS)),Uo 5 (.mov (Uk 7))]) .ret) .skip)) (Sq (Rg [Fa 42 1 8,La 43 2 42,Uo 44 (.buildSl true 2 1 [(.int .i64 0),(.int .i64 0)] [(0,(Ut 43))]),Fa 45 3 6,Lf 46 1 45,Fa 47 1 10,La 48 2 47,Uo 49 (.buildSl true 2 1 [(.int .i64 0),(.int .i64 0)] [(0,(Ut 48))]),Uo 50 (.buildSl true 1 3 [nilS] [(0,(Ut 44)),(1,(Ut 46)),(2,(Ut 49))]),Uo 51 (.call true 58 [(Ut 50)]),Um 4 51,Uo 5 (.mov (Uk 0))]) .ret)))))) }
def bH3 : ACode:=(Sq (Rg [Ib 45 .lss 44 43]) (Sq (.cond (Ut 45) .skip (.exit 2)) (Sq (.block 3 (Sq (Rg [Um 46 44,Um 12 46]) (.region true [] [Um 47 11,Um 48 9,Um 49 12,Ia 50 2 48 49,Fa 51 0 50,Lf 52 1 51,Um 53 9,Um 54 12,Ic 55 .add 54 1,Ia 56 2 53 55,Fa 57 1 56,Lf 58 1 57,Ib 59 .mul 52 58,Um 60 9,Um 61 12,Ic 62 .add 61 1,Ia 63 2 60 62,Fa 64 0 63,Lf 65 1 64,Um 66 9,Um 67 12,Ia 68 2 66 67,Fa 69 1 68,Lf 70 1 69,Ib 71 .mul 65 70,Ib 72 .sub 59 71,Ib 73 .add 47 72,Um 11 73]))) (Rg [Ic 74 .add 44 1,Um 44 74]))))
def bH4 : ACode:=(Sq (Rg [Ib 19 .lss 18 17]) (Sq (.cond (Ut 19) .skip (.exit 0)) (Sq (.block 1 (Sq (Rg [Ia 20 1 16 18,Lf 21 1 20,Um 6 21]) (Sq (Sq (Rg [La 23 3 2,Um 24 6,Uo 25 (.callB 59 [(Ut 23),(Ut 24)]),Um 22 25,Ex 26 22 0,Ex 27 22 1,Uo 7 (.alloc [(.int .i64 0),(.int .i64 0),(.int .i64 0),nilS,(.int .i64 0),(.int .i64 0)]),⟨none,.store 6 (Ut 7) (Ut 26),none⟩,Um 8 27]) (Sq (Rg [Um 28 8,Nt 29 28]) (.cond (Ut 29) (Sq (Rg [Uo 4 (.mov (Uk 0))]) .ret) .skip))) (Sq (Rg [La 31 3 2,Um 32 6,Um 33 6,Uo 34 (.un .neg (Ut 33)),Uo 35 (.minmax true [(Ut 32),(Ut 34)]),Uo 36 (.callB 37 [(Ut 31),(Ut 35)]),Um 30 36,Ex 37 30 0,Ex 38 30 1,Um 9 37,Um 10 38]) (Sq (Sq (Rg [Um 39 10,Ic 40 .neq 39 0]) (.cond (Ut 40) (Sq (Rg [Uo 4 (.mov (Uk 0))]) .ret) .skip)) (Sq (Rg [Uo 11 (.mov (Uk 0))]) (Sq (Sq (Rg [Um 41 9,Ln 42 41,Ic 43 .sub 42 1,Uo 44 (.mov (Uk 0))]) (.block 2 (.mask [false,false,true,false,true,false,true,false,false,false,false,true,false,false,false,false,true,true,true] [false,false,false,false,true] false (.loop (some [false,false,true,false,true,false,true,false,false,true,false,true,false,false,false,false,true,true,true,false,false,false,false,false,false,false,false,false,false,false,false,false,false,false,false,false,false,false,false,false,false,false,false,true,true]) false bH3)))) (Sq (Sq (Rg [Um 75 6,Ic 76 .lss 75 0]) (.cond (Ut 76) (Rg [Um 77 11,Uo 78 (.un .neg (Ut 77)),Um 11 78]) .skip)) (Rg [Um 79 4,Um 80 11,Ib 81 .add 79 80,Um 4 81]))))))))) (Rg [Ic 82 .add 18 1,Um 18 82]))))
def F38 : AFun:={ fid:=44,nt:=84,rets:=[.tmp 4],body:=(Sq (Rg [Uo 2 (.box (Ut 0)),Uo 4 (.mov (Uk 0))]) (Sq (Sq (Rg [Um 13 1,Ln 14 13,Ic 15 .gtr 14 512]) (.cond (Ut 15) (Sq (Rg [Uo 4 (.mov (Uk 0))]) .ret) .skip)) (Sq (Sq (Rg [Um 16 1,Ln 17 16,Uo 18 (.mov (Uk 0))]) (.block 0 (.mask [false,false,false,false,true] [false,false,false,false,true] true (.loop (some [false,false,true,false,true,false,false,false,false,false,false,false,false,false,false,false,true,true,true]) true bH4)))) (Sq (Rg [Um 83 4,Um 4 83]) .ret)))) }
def bH1 : ACode:=(.region true [] [Um 15 7,Ic 16 .eql 15 0,Um 17 16,Un 18 1 17 false,Un 19 8 17 false,Ug 20 17 false (.idxAddr 4 (Ut 18) (Ut 19)),Ug 21 17 false (.fieldAddr 0 (Ut 20)),Ug 22 17 false (.load false 1 (Ut 21)),Un 23 1 17 false,Un 24 7 17 false,Ug 25 17 false (.idxAddr 4 (Ut 23) (Ut 24)),Ug 26 17 false (.fieldAddr 0 (Ut 25)),Ug 27 17 false (.load false 1 (Ut 26)),Ug 28 17 false (.ibin .lss (Ut 22) (Ut 27)),Pt 29 17 28,Um 30 29,Un 31 0 30 true,Un 32 1 30 true,Un 33 8 30 true,Ug 34 30 true (.idxAddr 4 (Ut 32) (Ut 33)),Ug 35 30 true (.fieldAddr 1 (Ut 34)),Ug 36 30 true (.load false 1 (Ut 35)),Ug 37 30 true (.load true 2 (Ut 5)),Ug 38 30 true (.callB 60 [(Ut 31),(Ut 36),(Ut 37)]),Pf 39 30 38])
def bH2 : ACode:=(Sq (Sq (Rg [Um 9 8,Um 10 1,Ln 11 10,Ib 12 .lss 9 11]) (.cond (Ut 12) .skip (.exit 0))) (Sq (.block 1 (Sq (.told [true,true,false,false,false,true,false,true,true] [true,true,false,false,false,true,false,true,true,false,false,false,false,false,false,false,false,false,false,false,false,false,false,false,false,false,false,false,false,false,false,false,false,false,false,false,false,false,false,true] [false,false,false,false,false,false,true] bH1) (.cond (Ut 39) (Rg [Um 40 8,Um 7 40]) .skip))) (Rg [Um 13 8,Ic 14 .add 13 1,Um 8 14])))
def F39 : AFun:={ fid:=45,nt:=42,rets:=[.tmp 6],body:=(Sq (Rg [Uo 5 (.box (Ut 2)),Uo 6 (.mov (Uk 0))]) (Sq (Rg [Uo 7 (.mov (Uk 0))]) (Sq (Sq (Rg [Uo 8 (.mov (Uk 1))]) (.block 0 (.mask [false,false,false,false,false,false,false,true] [false,false,false,false,false,false,true] false (.loop (some [true,true,false,false,false,true,false,true,true]) false bH2)))) (Sq (Rg [Um 41 7,Um 6 41]) .ret)))) }
def bHz : ACode:=(Sq (Rg [Fa 14 1 6,Lf 15 1 14,Um 16 1,Ib 17 .eql 15 16]) (.cond (Ut 17) (Rg [Um 18 4,Ic 19 .add 18 1,Um 4 19]) .skip))
def bH0 : ACode:=(Sq (Rg [Ib 11 .lss 10 9]) (Sq (.cond (Ut 11) .skip (.exit 0)) (Sq (.block 1 (Sq (Rg [Ia 12 6 8 10,La 13 6 12,Uo 6 (.alloc [(.int .i64 0),(.int .i64 0),(.int .i64 0),nilS,(.int .i64 0),(.int .i64 0)]),⟨none,.store 6 (Ut 6) (Ut 13),none⟩]) (Sq (.told [false,true,false,false,true,false,true,false,true,true,true] [false,true,false,false,true,false,true,false,true,true,true] [false,false,false,false,true] bHz) (Sq (Rg [Fa 20 2 6,Lf 21 1 20,Um 22 1,Ib 23 .eql 21 22]) (.cond (Ut 23) (Rg [Um 24 4,Ic 25 .add 24 1,Um 4 25]) .skip))))) (Rg [Ic 26 .add 10 1,Um 10 26]))))
def F40 : AFun:={ fid:=46,nt:=28,rets:=[.tmp 4],body:=(Sq (Rg [Uo 2 (.box (Ut 0)),Uo 4 (.mov (Uk 0))]) (Sq (Sq (Rg [Fa 7 1 2,Lf 8 1 7,Ln 9 8,Uo 10 (.mov (Uk 0))]) (.block 0 (.mask [false,false,false,false,true] [false,false,false,false,true] true (.loop (some [false,true,false,false,true,false,false,false,true,true,true]) true bH0)))) (Sq (Rg [Um 27 4,Um 4 27]) .ret))) }
def F41 : AFun:={ fid:=47,nt:=23,rets:=[.tmp 4],body:=(Sq (Rg [Uo 2 (.box (Ut 0)),Uo 4 (.mov (Uk 0))]) (Sq (Rg [La 8 3 2,Um 9 1,Uo 10 (.callB 59 [(Ut 8),(Ut 9)]),Um 7 10,Ex 11 7 0,Ex 12 7 1,Uo 5 (.alloc [(.int .i64 0),(.int .i64 0),(.int .i64 0),nilS,(.int .i64 0),(.int .i64 0)]),⟨none,.store 6 (Ut 5) (Ut 11),none⟩,Um 6 12]) (Sq (.block 0 (Sq (Rg [Um 14 6,Nt 15 14,Um 13 15]) (.cond (Ut 13) (Sq (Rg [Uo 4 (.mov (Uk 0))]) .ret) (Sq (Rg [Um 17 1,Ic 18 .gtr 17 0,Um 16 18]) (.cond (Ut 16) (Sq (Rg [Fa 19 4 5,Lf 20 1 19,Um 4 20]) .ret) .skip))))) (Sq (Rg [Fa 21 5 5,Lf 22 1 21,Um 4 22]) .ret)))) }
def F42 : AFun:={ fid:=48,nt:=9,rets:=[.tmp 2],body:=(Sq (Rg [Uo 1 (.box (Ut 0)),Uo 2 (.claim 1)]) (Sq (Rg [Fa 3 1 1,Lf 4 1 3,Uo 5 (.buildSl false 1 1 [nilS] [(0,(Ut 4))]),Fa 6 2 1,Lf 7 1 6,Uo 8 (.append 1 24 (Ut 5) (Ut 7)),Um 2 8]) .ret)) }
def F43 : AFun:={ fid:=50,nt:=32,rets:=[.cell 2 2 true],body:=(Sq (Rg [Uo 1 (.box (Ut 0)),Uo 2 (.alloc [.nilFunc,.nilFunc])]) (Sq (Rg [Uo 7 (.mkFn 61 [(Ut 1)]),Uo 8 (.mkFn 62 [(Ut 1)]),Uo 9 (.build [.nilFunc,.nilFunc] [(0,1,(Ut 7)),(1,1,(Ut 8))]),Uo 3 (.alloc [.nilFunc,.nilFunc]),⟨none,.store 2 (Ut 3) (Ut 9),none⟩]) (Sq (Sq (Rg [Fa 10 0 1,Lf 11 1 10]) (.block 0 (Sq (Rg [Ic 13 .eql 11 2,Um 12 13]) (.cond (Ut 12) .stop (Sq (Rg [Ic 17 .eql 11 3,Um 16 17]) (.cond (Ut 16) (Sq .stop (Sq .stop .stop)) (Sq (Rg [Ic 25 .eql 11 4,Um 24 25]) (.cond (Ut 24) (Sq .stop .stop) .skip)))))))) (Sq (Rg [La 31 2 3,⟨none,.store 2 (Ut 2) (Ut 31),none⟩]) .ret)))) }
def F44 : AFun:={ fid:=49,nt:=34,rets:=[.cell 6 2 true,.tmp 7],body:=(Sq (Rg [Uo 3 (.box (Ut 0)),Uo 4 (.box (Ut 1)),Uo 5 (.box (Ut 2)),Uo 6 (.alloc [(.int .i64 0),(.int .i64 0)]),Uo 7 (.mov (Uk 0))]) (Sq (Sq (Rg [La 8 2 5,Uo 9 (.callS 29 [(Ut 8)]),Nt 10 9]) (.cond (Ut 10) (Sq .stop .ret) .skip)) (Sq (.region true [] [La 12 4 3,Fa 13 0 4,Lf 14 1 13,Fa 15 0 5,Lf 16 1 15,Fa 17 1 5,Lf 18 1 17,Uo 19 (.callv true (Ut 14) [(Ut 16),(Ut 18)]),Uo 20 (.callS 63 [(Ut 12),(Ut 19)]),La 21 4 3,Fa 22 1 4,Lf 23 1 22,Fa 24 1 5,Lf 25 1 24,Uo 26 (.callv true (Ut 23) [(Ut 25)]),Uo 27 (.callS 63 [(Ut 21),(Ut 26)]),Uo 28 (.build [(.int .i64 0),(.int .i64 0)] [(0,1,(Ut 20)),(1,1,(Ut 27))]),⟨none,.store 2 (Ut 6) (Ut 28),none⟩]) (Sq (Sq (Rg [La 29 2 6,Uo 30 (.callS 64 [(Ut 29)]),Nt 31 30]) (.cond (Ut 31) (Sq .stop .ret) .skip)) (Sq (Rg [La 33 2 6,⟨none,.store 2 (Ut 6) (Ut 33),none⟩,Uo 7 (.mov (Uk 0))]) .ret))))) }
def F45 : AFun:={ fid:=37,nt:=6,rets:=[.tmp 2],body:=(Sq (Rg [Uo 2 (.mov (.lit (.bool false)))]) (Sq (Rg [Um 3 0,Um 4 0,Ib 5 .neq 3 4,Um 2 5]) .ret)) }
def bHy : ACode:=(Sq (Rg [Ib 12 .lss 11 10]) (Sq (.cond (Ut 12) .skip (.exit 0)) (Sq (.block 1 (Sq (Rg [Ia 13 3 9 11,La 14 3 13,Uo 5 (.alloc [(.int .i64 0),(.int .i64 0),(.int .i64 0)]),⟨none,.store 3 (Ut 5) (Ut 14),none⟩]) (Rg [Um 15 2,Fa 16 0 5,Lf 17 1 16,Uo 18 (.buildSl true 1 1 [(.int .i64 0)] [(0,(Ut 17))]),Uo 19 (.append 1 8 (Ut 15) (Ut 18)),Um 2 19]))) (Rg [Ic 20 .add 11 1,Um 11 20]))))
def bHx : ACode:=(Sq (Rg [Ib 25 .lss 24 23]) (Sq (.cond (Ut 25) .skip (.exit 2)) (Sq (.block 3 (Sq (Rg [Ia 26 6 22 24,La 27 6 26,Uo 7 (.alloc [(.int .i64 0),(.int .i64 0),(.int .i64 0),nilS,(.int .i64 0),(.int .i64 0)]),⟨none,.store 6 (Ut 7) (Ut 27),none⟩]) (Rg [Um 28 3,Fa 29 0 7,Lf 30 1 29,Uo 31 (.buildSl true 1 1 [(.int .i64 0)] [(0,(Ut 30))]),Uo 32 (.append 1 8 (Ut 28) (Ut 31)),Um 3 32]))) (Rg [Ic 33 .add 24 1,Um 24 33]))))
def F46 : AFun:={ fid:=61,nt:=36,rets:=[.tmp 2,.tmp 3],body:=(Sq (Rg [Uo 1 (.box (Ut 0)),Uo 2 (.claim 1),Uo 3 (.claim 1)]) (Sq (Sq (Rg [Fa 8 0 1,Lf 9 1 8,Ln 10 9,Uo 11 (.mov (Uk 0))]) (.block 0 (.mask [false,true,true,true] [false,false,true,true] true (.loop (some [false,true,true,true,false,false,false,false,false,true,true,true]) true bHy)))) (Sq (Sq (Rg [Fa 21 1 1,Lf 22 1 21,Ln 23 22,Uo 24 (.mov (Uk 0))]) (.block 2 (.mask [false,false,true,true] [false,false,true,true] true (.loop (some [false,false,true,true,false,false,false,false,false,false,false,false,false,false,false,false,false,false,false,false,false,false,true,true,true]) true bHx)))) (Sq (Rg [Um 34 2,Um 35 3,Um 2 34,Um 3 35]) .ret)))) }
def bHw : ACode:=(Sq (Sq (Rg [Um 4 3,Um 5 0,Ln 6 5,Ib 7 .lss 4 6]) (.cond (Ut 7) .skip (.exit 0))) (Sq (.block 1 (Sq (.region true [] [Um 10 0,Um 11 3,Ic 12 .sub 11 1,Ia 13 1 10 12,Lf 14 1 13,Um 15 0,Um 16 3,Ia 17 1 15 16,Lf 18 1 17,Ib 19 .geq 14 18]) (.cond (Ut 19) (Sq (Rg [Uo 2 (.mov (.lit (.bool false)))]) .ret) .skip))) (Rg [Um 8 3,Ic 9 .add 8 1,Um 3 9])))
def F47 : AFun:={ fid:=62,nt:=20,rets:=[.tmp 2],body:=(Sq (Rg [Uo 2 (.mov (.lit (.bool false)))]) (Sq (Sq (Rg [Uo 3 (.mov (Uk 1))]) (.block 0 (.mask [] [false,false,true] false (.loop (some [true,false,false,true]) false bHw)))) (Sq (Rg [Uo 2 (.mov (.lit (.bool true)))]) .ret))) }
def F48 : AFun:={ fid:=63,nt:=6,rets:=[.tmp 2],body:=(Sq (Rg [Uo 2 (.mov (.lit (.bool false)))]) (Sq (Rg [Um 3 0,Uo 4 (.call false 65 [(Ut 3),(.fn 66)]),Nt 5 4,Um 2 5]) .ret)) }
def bHv : ACode:=(Sq (Rg [Ib 12 .lss 11 10]) (Sq (.cond (Ut 12) .skip (.exit 0)) (Sq (.block 1 (Sq (Rg [Ia 13 3 9 11,La 14 3 13,Uo 5 (.alloc [(.int .i64 0),(.int .i64 0),(.int .i64 0)]),⟨none,.store 3 (Ut 5) (Ut 14),none⟩]) (Sq (Rg [Um 15 3,Fa 16 1 5,La 17 2 16,Uo 18 (.callv false (Ut 15) [(Ut 17)])]) (.cond (Ut 18) (Sq (Rg [Uo 2 (.mov (.lit (.bool false)))]) .ret) .skip)))) (Rg [Ic 19 .add 11 1,Um 11 19]))))
def bHu : ACode:=(Sq (Rg [Ib 24 .lss 23 22]) (Sq (.cond (Ut 24) .skip (.exit 2)) (Sq (.block 3 (Sq (Rg [Ia 25 6 21 23,La 26 6 25,Uo 7 (.alloc [(.int .i64 0),(.int .i64 0),(.int .i64 0),nilS,(.int .i64 0),(.int .i64 0)]),⟨none,.store 6 (Ut 7) (Ut 26),none⟩]) (Sq (Rg [Fa 27 3 7,Lf 28 1 27,Um 29 3,Uo 30 (.call false 68 [(Ut 28),(Ut 29)])]) (.cond (Ut 30) (Sq (Rg [Uo 2 (.mov (.lit (.bool false)))]) .ret) .skip)))) (Rg [Ic 31 .add 23 1,Um 23 31]))))
def F49 : AFun:={ fid:=64,nt:=32,rets:=[.tmp 2],body:=(Sq (Rg [Uo 1 (.box (Ut 0)),Uo 2 (.mov (.lit (.bool false)))]) (Sq (Rg [Uo 3 (.mov (.fn 67))]) (Sq (Sq (Rg [Fa 8 0 1,Lf 9 1 8,Ln 10 9,Uo 11 (.mov (Uk 0))]) (.block 0 (.mask [false,true,false,true] [false,false,true] true (.loop (some [false,true,false,true,false,false,false,false,false,true,true,true]) true bHv)))) (Sq (Sq (Rg [Fa 20 1 1,Lf 21 1 20,Ln 22 21,Uo 23 (.mov (Uk 0))]) (.block 2 (.mask [] [false,false,true] true (.loop (some [false,false,false,true,false,false,false,false,false,false,false,false,false,false,false,false,false,false,false,false,false,true,true,true]) true bHu)))) (Sq (Rg [Uo 2 (.mov (.lit (.bool true)))]) .ret))))) }
def bHs : ACode:=(Sq (Rg [Ib 29 .lss 28 27]) (Sq (.cond (Ut 29) .skip (.exit 2)) (Sq (.block 3 (Sq (Rg [Ia 30 3 26 28,La 31 3 30,Uo 8 (.alloc [(.int .i64 0),(.int .i64 0),(.int .i64 0)]),⟨none,.store 3 (Ut 8) (Ut 31),none⟩]) (Sq (Rg [Fa 32 1 6,La 33 2 32,Fa 34 1 8,La 35 2 34,Uo 36 (.bin .eql 46 (Ut 33) (Ut 35))]) (.cond (Ut 36) (Sq (Rg [Uo 4 (.mov (Uk 8))]) .ret) .skip)))) (Rg [Ic 37 .add 28 1,Um 28 37]))))
def bHt : ACode:=(Sq (Rg [Ib 19 .lss 18 17]) (Sq (.cond (Ut 19) .skip (.exit 0)) (Sq (.block 1 (Sq (Rg [Um 20 18,Ia 21 3 16 18,La 22 3 21,Uo 6 (.alloc [(.int .i64 0),(.int .i64 0),(.int .i64 0)]),Um 5 20,⟨none,.store 3 (Ut 6) (Ut 22),none⟩]) (Sq (Rg [Fa 23 0 2,Lf 24 1 23,Um 25 5,Uo 26 (.slice 3 (Ut 24) none (some (Ut 25)) none),Ln 27 26,Uo 28 (.mov (Uk 0))]) (.block 2 (.mask [false,true,true,false,false,false,false,false,false,false,false,false,false,false,false,false,true,true,true] [false,false,false,false,true] true (.loop (some [false,true,true,false,false,false,true,false,false,false,false,false,false,false,false,false,true,true,true,false,false,false,false,false,false,false,true,true,true]) true bHs)))))) (Rg [Ic 38 .add 18 1,Um 18 38]))))
def bHq : ACode:=(Rg [Um 46 1,Fa 47 1 10,Lf 48 1 47,Uo 49 (.callB 69 [(Ut 46),(Ut 48)]),Nt 50 49,Um 51 50,Un 52 1 51 false,Ug 53 51 false (.fieldAddr 2 (Ut 10)),Ug 54 51 false (.load false 1 (Ut 53)),Ug 55 51 false (.callB 69 [(Ut 52),(Ut 54)]),Ug 56 51 false (.un .not (Ut 55)),Pt 57 51 56])
def bHr : ACode:=(Sq (Rg [Ib 43 .lss 42 41]) (Sq (.cond (Ut 43) .skip (.exit 4)) (Sq (.block 5 (Sq (Rg [Ia 44 6 40 42,La 45 6 44,Uo 10 (.alloc [(.int .i64 0),(.int .i64 0),(.int .i64 0),nilS,(.int .i64 0),(.int .i64 0)]),⟨none,.store 6 (Ut 10) (Ut 45),none⟩]) (Sq (.told [false,true,true,false,false,false,false,false,false,false,true,false,false,false,false,false,false,false,false,false,false,false,false,false,false,false,false,false,false,false,false,false,false,false,false,false,false,false,false,false,true,true,true] [false,true,true,false,false,false,false,false,false,false,false,false,false,false,false,false,false,false,false,false,false,false,false,false,false,false,false,false,false,false,false,false,false,false,false,false,false,false,false,false,true,true,true,false,false,false,false,false,false,false,false,false,false,false,false,false,false,true] [false,false,false,false,true] bHq) (.cond (Ut 57) (Sq (Rg [Uo 4 (.mov (Uk 7))]) .ret) .skip)))) (Rg [Ic 58 .add 42 1,Um 42 58]))))
def bE7 : ACode:=(Rg [Um 74 14,Ic 75 .neq 74 0,Um 76 75,Ug 77 76 true (.fieldAddr 2 (Ut 2)),Ug 78 76 true (.load false 1 (Ut 77)),Un 79 14 76 true,Ug 80 76 true (.callB 69 [(Ut 78),(Ut 79)]),Ug 81 76 true (.un .not (Ut 80)),Pf 82 76 81])
def aZc : ACode:=(Sq (Rg [Ic 72 .lss 71 2]) (Sq (.cond (Ut 72) .skip (.exit 8)) (Sq (.block 9 (Sq (Rg [Uo 73 (.index false 1 2 (Ut 70) (Ut 71)),Um 14 73]) (Sq (.told [false,false,true,false,false,false,false,false,false,false,false,false,false,false,true,false,false,false,false,false,false,false,false,false,false,false,false,false,false,false,false,false,false,false,false,false,false,false,false,false,false,false,false,false,false,false,false,false,false,false,false,false,false,false,false,false,false,false,false,false,true,true,true,false,false,false,false,false,false,false,true,true] [false,false,true,false,false,false,false,false,false,false,false,false,false,false,false,false,false,false,false,false,false,false,false,false,false,false,false,false,false,false,false,false,false,false,false,false,false,false,false,false,false,false,false,false,false,false,false,false,false,false,false,false,false,false,false,false,false,false,false,false,true,true,true,false,false,false,false,false,false,false,true,true,false,false,false,false,false,false,false,false,false,false,true] [false,false,false,false,true] bE7) (.cond (Ut 82) (Sq (Rg [Uo 4 (.mov (Uk 12))]) .ret) .skip)))) (Rg [Ic 83 .add 71 1,Um 71 83]))))
def bHp : ACode:=(Sq (Rg [Ib 63 .lss 62 61]) (Sq (.cond (Ut 63) .skip (.exit 6)) (Sq (.block 7 (Sq (Rg [Ia 64 6 60 62,La 65 6 64,Uo 12 (.alloc [(.int .i64 0),(.int .i64 0),(.int .i64 0),nilS,(.int .i64 0),(.int .i64 0)]),⟨none,.store 6 (Ut 12) (Ut 65),none⟩]) (Sq (Rg [Fa 66 4 12,Lf 67 1 66,Fa 68 5 12,Lf 69 1 68,Uo 70 (.build [(.int .i64 0),(.int .i64 0)] [(0,1,(Ut 67)),(1,1,(Ut 69))]),Uo 71 (.mov (Uk 0))]) (.block 8 (.mask [false,false,true,false,false,false,false,false,false,false,false,false,false,false,false,false,false,false,false,false,false,false,false,false,false,false,false,false,false,false,false,false,false,false,false,false,false,false,false,false,false,false,false,false,false,false,false,false,false,false,false,false,false,false,false,false,false,false,false,false,true,true,true] [false,false,false,false,true] false (.loop (some [false,false,true,false,false,false,false,false,false,false,false,false,false,false,false,false,false,false,false,false,false,false,false,false,false,false,false,false,false,false,false,false,false,false,false,false,false,false,false,false,false,false,false,false,false,false,false,false,false,false,false,false,false,false,false,false,false,false,false,false,true,true,true,false,false,false,false,false,false,false,true,true]) false aZc)))))) (Rg [Ic 84 .add 62 1,Um 62 84]))))
def F50 : AFun:={ fid:=65,nt:=85,rets:=[.tmp 4],body:=(Sq (Rg [Uo 2 (.box (Ut 0)),Uo 4 (.mov (Uk 0))]) (Sq (Sq (Rg [Fa 15 0 2,Lf 16 1 15,Ln 17 16,Uo 18 (.mov (Uk 0))]) (.block 0 (.mask [false,true,true] [false,false,false,false,true] true (.loop (some [false,true,true,false,false,false,false,false,false,false,false,false,false,false,false,false,true,true,true]) true bHt)))) (Sq (Sq (Rg [Fa 39 1 2,Lf 40 1 39,Ln 41 40,Uo 42 (.mov (Uk 0))]) (.block 4 (.mask [false,false,true] [false,false,false,false,true] true (.loop (some [false,true,true,false,false,false,false,false,false,false,false,false,false,false,false,false,false,false,false,false,false,false,false,false,false,false,false,false,false,false,false,false,false,false,false,false,false,false,false,false,true,true,true]) true bHr)))) (Sq (Sq (Rg [Fa 59 1 2,Lf 60 1 59,Ln 61 60,Uo 62 (.mov (Uk 0))]) (.block 6 (.mask [] [false,false,false,false,true] true (.loop (some [false,false,true,false,false,false,false,false,false,false,false,false,false,false,false,false,false,false,false,false,false,false,false,false,false,false,false,false,false,false,false,false,false,false,false,false,false,false,false,false,false,false,false,false,false,false,false,false,false,false,false,false,false,false,false,false,false,false,false,false,true,true,true]) true bHp)))) (Sq (Rg [Uo 4 (.mov (Uk 0))]) .ret))))) }
def bHo : ACode:=(Sq (Rg [Ib 28 .lss 27 26]) (Sq (.cond (Ut 28) .skip (.exit 0)) (Sq (.block 1 (Sq (Rg [Ia 29 3 25 27,La 30 3 29,Uo 7 (.alloc [(.int .i64 0),(.int .i64 0),(.int .i64 0)]),⟨none,.store 3 (Ut 7) (Ut 30),none⟩]) (Rg [Um 31 5,Fa 32 0 7,Lf 33 1 32,Fa 34 1 7,La 35 2 34,⟨none,.mapUpd 3 (Ut 31) (Ut 33) (Ut 35),none⟩]))) (Rg [Ic 36 .add 27 1,Um 27 36]))))
def bHm : ACode:=(Sq (Rg [Ib 52 .lss 51 50]) (Sq (.cond (Ut 52) .skip (.exit 4)) (Sq (.block 5 (Sq (Rg [Ia 53 2 49 51,La 54 2 53,Uo 11 (.alloc [(.pointer none),(.int .i64 0)]),⟨none,.store 2 (Ut 11) (Ut 54),none⟩]) (Sq (Sq (.region true [] [La 55 2 11,Uo 56 (.callB 73 [(Ut 55)]),La 57 2 9,Uo 58 (.callB 74 [(Ut 57)]),Ib 59 .gtr 56 58]) (.cond (Ut 59) (.exit 4) .skip)) (Sq (Rg [La 60 2 9,La 61 2 11,Um 62 5,Uo 63 (.call false 75 [(Ut 60),(Ut 61),(Ut 62)]),Nt 64 63]) (.cond (Ut 64) (Sq (Rg [Uo 2 (.mov (.lit (.bool false)))]) .ret) .skip))))) (Rg [Ic 65 .add 51 1,Um 51 65]))))
def bHk : ACode:=(.region true [] [La 78 2 14,La 79 2 15,Fa 80 1 13,La 81 2 80,Uo 82 (.callB 77 [(Ut 78),(Ut 79),(Ut 81)]),Um 83 82,Ug 84 83 true (.load true 2 (Ut 9)),Ug 85 83 true (.callB 78 [(Ut 84)]),Un 86 85 83 true,Ug 87 86 true (.fieldAddr 0 (Ut 9)),Ug 88 86 true (.load false 1 (Ut 87)),Ug 89 86 true (.nilCheck (Ut 88)),Ug 90 86 true (.fieldAddr 0 (Ut 89)),Ug 91 86 true (.fieldAddr 1 (Ut 90)),Ug 92 86 true (.load false 1 (Ut 91)),Ug 93 86 true (.fieldAddr 0 (Ut 13)),Ug 94 86 true (.load false 1 (Ut 93)),Ug 95 86 true (.ibin .eql (Ut 92) (Ut 94)),Ug 96 83 true (.pick (Ut 86) (Ut 95) (.lit (.bool false))),Ug 97 83 true (.un .not (Ut 96)),Pf 98 83 97,Um 99 98,Ug 100 99 true (.load true 2 (Ut 9)),Ug 101 99 true (.callB 79 [(Ut 100)]),Un 102 101 99 true,Ug 103 102 true (.fieldAddr 0 (Ut 9)),Ug 104 102 true (.load false 1 (Ut 103)),Ug 105 102 true (.nilCheck (Ut 104)),Ug 106 102 true (.fieldAddr 0 (Ut 105)),Ug 107 102 true (.fieldAddr 2 (Ut 106)),Ug 108 102 true (.load false 1 (Ut 107)),Ug 109 102 true (.fieldAddr 0 (Ut 13)),Ug 110 102 true (.load false 1 (Ut 109)),Ug 111 102 true (.ibin .eql (Ut 108) (Ut 110)),Ug 112 99 true (.pick (Ut 102) (Ut 111) (.lit (.bool false))),Ug 113 99 true (.un .not (Ut 112)),Pf 114 99 113])
def bHl : ACode:=(Sq (Rg [Ib 70 .lss 69 68]) (Sq (.cond (Ut 70) .skip (.exit 6)) (Sq (.block 7 (Sq (Rg [Ia 71 3 67 69,La 72 3 71,Uo 13 (.alloc [(.int .i64 0),(.int .i64 0),(.int .i64 0)]),⟨none,.store 3 (Ut 13) (Ut 72),none⟩]) (Sq (Rg [La 74 2 9,Uo 75 (.callB 76 [(Ut 74)]),Um 73 75,Ex 76 73 0,Ex 77 73 1,Uo 14 (.alloc [(.int .i64 0),(.int .i64 0)]),Uo 15 (.alloc [(.int .i64 0),(.int .i64 0)]),⟨none,.store 2 (Ut 14) (Ut 76),none⟩,⟨none,.store 2 (Ut 15) (Ut 77),none⟩]) (Sq (.told [false,true,false,true,false,true,false,false,false,true,false,false,false,true,true,true,false,false,false,false,false,false,false,false,false,false,false,false,false,false,false,false,false,false,false,false,false,false,false,true,true,true,false,false,false,false,false,false,false,false,false,false,false,false,false,false,false,false,false,false,false,false,false,false,false,false,false,true,true,true] [false,true,false,true,false,true,false,false,false,true,false,false,false,false,false,false,false,false,false,false,false,false,false,false,false,false,false,false,false,false,false,false,false,false,false,false,false,false,false,true,true,true,false,false,false,false,false,false,false,false,false,false,false,false,false,false,false,false,false,false,false,false,false,false,false,false,false,true,true,true,false,false,false,false,false,false,false,false,false,false,false,false,false,false,false,false,false,false,false,false,false,false,false,false,false,false,false,false,false,false,false,false,false,false,false,false,false,false,false,false,false,false,false,false,true] [false,false,true] bHk) (.cond (Ut 114) (Sq (Rg [Uo 2 (.mov (.lit (.bool false)))]) .ret) .skip))))) (Rg [Ic 115 .add 69 1,Um 69 115]))))
def bHn : ACode:=(Sq (Rg [Ib 42 .lss 41 40]) (Sq (.cond (Ut 42) .skip (.exit 2)) (Sq (.block 3 (Sq (Rg [Um 43 41,Ia 44 2 39 41,La 45 2 44,Uo 9 (.alloc [(.pointer none),(.int .i64 0)]),Um 8 43,⟨none,.store 2 (Ut 9) (Ut 45),none⟩]) (Sq (Sq (Rg [Um 46 3,Um 47 8,Ic 48 .add 47 1,Uo 49 (.slice 2 (Ut 46) (some (Ut 48)) none none),Ln 50 49,Uo 51 (.mov (Uk 0))]) (.block 4 (.mask [false,true,false,true,false,true,false,false,false,true,false,false,false,false,false,false,false,false,false,false,false,false,false,false,false,false,false,false,false,false,false,false,false,false,false,false,false,false,false,true,true,true] [false,false,true] true (.loop (some [false,true,false,true,false,true,false,false,false,true,false,false,false,false,false,false,false,false,false,false,false,false,false,false,false,false,false,false,false,false,false,false,false,false,false,false,false,false,false,true,true,true,false,false,false,false,false,false,false,true,true,true]) true bHm)))) (Sq (Rg [Fa 66 0 1,Lf 67 1 66,Ln 68 67,Uo 69 (.mov (Uk 0))]) (.block 6 (.mask [false,true,false,true,false,true,false,false,false,false,false,false,false,false,false,false,false,false,false,false,false,false,false,false,false,false,false,false,false,false,false,false,false,false,false,false,false,false,false,true,true,true] [false,false,true] true (.loop (some [false,true,false,true,false,true,false,false,false,true,false,false,false,false,false,false,false,false,false,false,false,false,false,false,false,false,false,false,false,false,false,false,false,false,false,false,false,false,false,true,true,true,false,false,false,false,false,false,false,false,false,false,false,false,false,false,false,false,false,false,false,false,false,false,false,false,false,true,true,true]) true bHl))))))) (Rg [Ic 116 .add 41 1,Um 41 116]))))
def F51 : AFun:={ fid:=66,nt:=117,rets:=[.tmp 2],body:=(Sq (Rg [Uo 1 (.box (Ut 0)),Uo 2 (.mov (.lit (.bool false)))]) (Sq (Rg [La 17 3 1,Uo 18 (.callT 2 70 [(Ut 17)]),Um 16 18,Ex 19 16 0,Ex 20 16 1,Um 3 19,Um 4 20]) (Sq (Sq (Rg [Um 21 4,Nt 22 21]) (.cond (Ut 22) (Sq (Rg [Uo 2 (.mov (.lit (.bool false)))]) .ret) .skip)) (Sq (Rg [Uo 23 (.mkMap),Um 5 23]) (Sq (Sq (Rg [Fa 24 0 1,Lf 25 1 24,Ln 26 25,Uo 27 (.mov (Uk 0))]) (.block 0 (.mask [false,true,false,true,false,true] [false,false,true] true (.loop (some [false,true,false,true,false,true,false,false,false,false,false,false,false,false,false,false,false,false,false,false,false,false,false,false,false,true,true,true]) true bHo)))) (Sq (Rg [Um 37 3,Uo 38 (.call false 71 [(Ut 37),(.fn 72)])]) (Sq (Sq (.frz 3 (Rg [Um 39 3,Ln 40 39,Uo 41 (.mov (Uk 0))])) (.block 2 (.mask [] [false,false,true] true (.loop (some [false,true,false,true,false,true,false,false,false,false,false,false,false,false,false,false,false,false,false,false,false,false,false,false,false,false,false,false,false,false,false,false,false,false,false,false,false,false,false,true,true,true]) true bHn)))) (Sq (Rg [Uo 2 (.mov (.lit (.bool true)))]) .ret)))))))) }
def bHj : ACode:=(Sq (Rg [Ib 12 .lss 11 10]) (Sq (.cond (Ut 12) .skip (.exit 0)) (Sq (.block 1 (Sq (Rg [Ia 13 3 9 11,La 14 3 13,Uo 7 (.alloc [(.int .i64 0),(.int .i64 0),(.int .i64 0)]),⟨none,.store 3 (Ut 7) (Ut 14),none⟩]) (Sq (Rg [Fa 15 0 7,Lf 16 1 15,Um 17 1,Ib 18 .eql 16 17]) (.cond (Ut 18) (Sq (Rg [La 19 3 7,⟨none,.store 3 (Ut 4) (Ut 19),none⟩,Uo 5 (.mov (.lit (.bool true)))]) .ret) .skip)))) (Rg [Ic 20 .add 11 1,Um 11 20]))))
def F52 : AFun:={ fid:=67,nt:=22,rets:=[.cell 4 3 true,.tmp 5],body:=(Sq (Rg [Uo 2 (.box (Ut 0)),Uo 4 (.alloc [(.int .i64 0),(.int .i64 0),(.int .i64 0)]),Uo 5 (.mov (.lit (.bool false)))]) (Sq (Sq (Rg [Fa 8 0 2,Lf 9 1 8,Ln 10 9,Uo 11 (.mov (Uk 0))]) (.block 0 (.mask [false,false,false,false,true] [false,false,false,false,true,true] true (.loop (some [false,true,false,false,true,false,false,false,false,true,true,true]) true bHj)))) (Sq (Rg [Uo 21 (.build [(.int .i64 0),(.int .i64 0),(.int .i64 0)] []),⟨none,.store 3 (Ut 4) (Ut 21),none⟩,Uo 5 (.mov (.lit (.bool false)))]) .ret))) }
def F53 : AFun:={ fid:=68,nt:=13,rets:=[],body:=(Sq (Rg [Uo 5 (.box (Ut 1))]) (Sq (Rg [Lf 6 1 2,Um 7 0,Uo 8 (.buildSl true 1 1 [(.int .i64 0)] [(0,(Ut 7))]),Uo 9 (.append 1 8 (Ut 6) (Ut 8)),⟨none,.store 1 (Ut 2) (Ut 9),none⟩]) (Rg [Lf 10 1 3,Um 11 0,La 12 2 5,⟨none,.mapUpd 3 (Ut 10) (Ut 11) (Ut 12),none⟩]))) }
def F54 : AFun:={ fid:=70,nt:=27,rets:=[.tmp 6],body:=(Sq (Rg [Uo 6 (.mov (Uk 0))]) (Sq (.block 0 (Sq (Rg [Fa 8 1 2,La 9 2 8,Lf 10 1 3,Um 11 0,Uo 12 (.lookup 3 (.agg [(.int .i64 0),(.int .i64 0)]) (Ut 10) (Ut 11) false),Lf 13 1 3,Um 14 1,Uo 15 (.lookup 3 (.agg [(.int .i64 0),(.int .i64 0)]) (Ut 13) (Ut 14) false),Uo 16 (.callB 80 [(Ut 9),(Ut 12),(Ut 15)]),Um 7 16]) (.cond (Ut 7) (Sq (Rg [Uo 6 (.mov (Uk (-1)))]) .ret) (Sq (Rg [Fa 18 1 2,La 19 2 18,Lf 20 1 3,Um 21 1,Uo 22 (.lookup 3 (.agg [(.int .i64 0),(.int .i64 0)]) (Ut 20) (Ut 21) false),Lf 23 1 3,Um 24 0,Uo 25 (.lookup 3 (.agg [(.int .i64 0),(.int .i64 0)]) (Ut 23) (Ut 24) false),Uo 26 (.callB 80 [(Ut 19),(Ut 22),(Ut 25)]),Um 17 26]) (.cond (Ut 17) (Sq (Rg [Uo 6 (.mov (Uk 1))]) .ret) .skip))))) (Sq (Rg [Uo 6 (.mov (Uk 0))]) .ret))) }
def F55 : AFun:={ fid:=69,nt:=14,rets:=[],body:=.stop }
def bHi : ACode:=(Sq (Rg [Ib 9 .lss 8 7]) (Sq (.cond (Ut 9) .skip (.exit 0)) (Sq (.block 1 (Sq (Rg [Um 10 8,Um 5 10]) (Sq (Rg [Um 11 1,Um 12 0,Um 13 5,Ia 14 1 12 13,Lf 15 1 14,Ib 16 .eql 11 15]) (.cond (Ut 16) (Sq (Rg [Um 17 5,Um 4 17]) .ret) .skip)))) (Rg [Ic 18 .add 8 1,Um 8 18]))))
def F56 : AFun:={ fid:=72,nt:=19,rets:=[.tmp 4],body:=(Sq (Rg [Uo 4 (.mov (Uk 0))]) (Sq (Sq (Rg [Um 6 0,Ln 7 6,Uo 8 (.mov (Uk 0))]) (.block 0 (.mask [] [false,false,false,false,true] false (.loop (some [true,true,false,false,false,false,false,true,true]) false bHi)))) (Sq (Rg [Uo 4 (.mov (Uk (-1)))]) .ret))) }
def bHh : ACode:=(Sq (Rg [Ib 12 .lss 11 10]) (Sq (.cond (Ut 12) .skip (.exit 0)) (Sq (.block 1 (Sq (Rg [Ia 13 6 9 11,La 14 6 13,Uo 7 (.alloc [(.int .i64 0),(.int .i64 0),(.int .i64 0),nilS,(.int .i64 0),(.int .i64 0)]),⟨none,.store 6 (Ut 7) (Ut 14),none⟩]) (Sq (Rg [Fa 15 0 7,Lf 16 1 15,Um 17 1,Ib 18 .eql 16 17]) (.cond (Ut 18) (Sq (Rg [Fa 19 3 7,Lf 20 1 19,Uo 21 (.callB 81 [(Ut 20)]),Fa 22 3 7,⟨none,.store 1 (Ut 22) (Ut 21),none⟩]) (Sq (Rg [La 23 6 7,⟨none,.store 6 (Ut 4) (Ut 23),none⟩,Uo 5 (.mov (.lit (.bool true)))]) .ret)) .skip)))) (Rg [Ic 24 .add 11 1,Um 11 24]))))
def F57 : AFun:={ fid:=74,nt:=26,rets:=[.cell 4 6 true,.tmp 5],body:=(Sq (Rg [Uo 2 (.box (Ut 0)),Uo 4 (.alloc [(.int .i64 0),(.int .i64 0),(.int .i64 0),nilS,(.int .i64 0),(.int .i64 0)]),Uo 5 (.mov (.lit (.bool false)))]) (Sq (Sq (Rg [Fa 8 1 2,Lf 9 1 8,Ln 10 9,Uo 11 (.mov (Uk 0))]) (.block 0 (.mask [false,false,false,false,true] [false,false,false,false,true,true] true (.loop (some [false,true,false,false,true,false,false,false,false,true,true,true]) true bHh)))) (Sq (Rg [Uo 25 (.build [(.int .i64 0),(.int .i64 0),(.int .i64 0),nilS,(.int .i64 0),(.int .i64 0)] []),⟨none,.store 6 (Ut 4) (Ut 25),none⟩,Uo 5 (.mov (.lit (.bool false)))]) .ret))) }
def bHg : ACode:=(Sq (Rg [Ib 12 .lss 11 10]) (Sq (.cond (Ut 12) .skip (.exit 0)) (Sq (.block 1 (Sq (Rg [Ia 13 1 9 11,Lf 14 1 13,Um 5 14]) (Sq (Rg [Um 15 3,Um 16 5,Ln 17 16,Ib 18 .add 15 17,Um 3 18]) (Sq (Rg [Um 19 3,Ic 20 .lss 19 0]) (.cond (Ut 20) .stop .skip))))) (Rg [Ic 22 .add 11 1,Um 11 22]))))
def bHf : ACode:=(Sq (Rg [Ib 28 .lss 27 26]) (Sq (.cond (Ut 28) .skip (.exit 2)) (Sq (.block 3 (Sq (Rg [Ia 29 1 25 27,Lf 30 1 29,Um 8 30]) (Rg [Um 31 6,Um 32 8,Uo 33 (.append 2 16 (Ut 31) (Ut 32)),Um 6 33]))) (Rg [Ic 34 .add 27 1,Um 27 34]))))
def F58 : AFun:={ fid:=75,nt:=36,rets:=[.tmp 2],body:=(Sq (Rg [Uo 2 (.movN (.lit nilS))]) (Sq (Rg [Uo 3 (.mov (Uk 0))]) (Sq (Sq (Rg [Um 9 0,Ln 10 9,Uo 11 (.mov (Uk 0))]) (.block 0 (.mask [true,false,false,true] [false,false,true] false (.loop (some [true,false,false,true,false,false,false,false,false,true,true,true]) false bHg)))) (Sq (Rg [Um 23 3,Uo 24 (.call false 82 [(.lit nilS),(Ut 23)]),Um 6 24]) (Sq (Sq (Rg [Um 25 0,Ln 26 25,Uo 27 (.mov (Uk 0))]) (.block 2 (.mask [false,false,false,false,false,false,true] [false,false,true] false (.loop (some [false,false,false,false,false,false,true,false,false,false,false,false,false,false,false,false,false,false,false,false,false,false,false,false,false,true,true,true]) false bHf)))) (Sq (Rg [Um 35 6,Um 2 35]) .ret)))))) }
def F59 : AFun:={ fid:=76,nt:=21,rets:=[.cell 4 6 true,.tmp 5],body:=(Sq (Rg [Uo 2 (.box (Ut 0)),Uo 4 (.alloc [(.int .i64 0),(.int .i64 0),(.int .i64 0),nilS,(.int .i64 0),(.int .i64 0)]),Uo 5 (.mov (.lit (.bool false)))]) (Sq (Sq (Rg [Um 6 1,Ic 7 .eql 6 0,Um 8 7,Un 9 1 8 false,Ug 10 8 false (.ibin .eql (Ut 9) (Uk (-9223372036854775808))),Pt 11 8 10]) (.cond (Ut 11) (Sq (Rg [Uo 12 (.build [(.int .i64 0),(.int .i64 0),(.int .i64 0),nilS,(.int .i64 0),(.int .i64 0)] []),⟨none,.store 6 (Ut 4) (Ut 12),none⟩,Uo 5 (.mov (.lit (.bool false)))]) .ret) .skip)) (Sq (Rg [La 13 3 2,Um 14 1,Um 15 1,Uo 16 (.un .neg (Ut 15)),Uo 17 (.minmax true [(Ut 14),(Ut 16)]),Uo 18 (.callB 57 [(Ut 13),(Ut 17)]),Ex 19 18 0,Ex 20 18 1,⟨none,.store 6 (Ut 4) (Ut 19),none⟩,Um 5 20]) .ret))) }
def F60 : AFun:={ fid:=77,nt:=18,rets:=[.tmp 6],body:=(Sq (Rg [Uo 5 (.box (Ut 2)),Uo 6 (.mov (.lit (.bool false)))]) (Sq (Rg [Uo 7 (.alloc [(.bool false)]),Uo 8 (.alloc [(.bool false)]),⟨none,.store 1 (Ut 7) (.lit (.bool false)),none⟩,⟨none,.store 1 (Ut 8) (.lit (.bool false)),none⟩]) (Sq (Rg [Um 9 0,Um 10 1,Uo 11 (.mkFn 83 [(Ut 5),(Ut 7),(Ut 8)]),Uo 12 (.call false 84 [(Ut 9),(Ut 10),(Ut 11)])]) (Sq (Rg [Lf 13 1 8,Um 14 13,Ug 15 14 true (.load false 1 (Ut 7)),Ug 16 14 true (.un .not (Ut 15)),Pf 17 14 16,Um 6 17]) .ret)))) }
def F61 : AFun:={ fid:=80,nt:=11,rets:=[.tmp 5],body:=(Sq (Rg [Uo 5 (.mov (Uk 0))]) (Sq (Rg [Um 6 0,Fa 7 1 2,Lf 8 1 7,Ib 9 .sub 6 8,Uo 10 (.callS 85 [(Ut 9)]),Um 5 10]) .ret)) }
def F62 : AFun:={ fid:=82,nt:=9,rets:=[.tmp 3],body:=(Sq (Rg [Uo 3 (.mov (Uk 0))]) (Sq (Rg [Um 4 0,Fa 5 2 1,Lf 6 1 5,Ib 7 .sub 4 6,Uo 8 (.callS 85 [(Ut 7)]),Um 3 8]) .ret)) }
def F63 : AFun:={ fid:=78,nt:=16,rets:=[.tmp 4],body:=(Sq (Rg [Uo 2 (.box (Ut 0)),Uo 4 (.mov (Uk 0))]) (Sq (Rg [Fa 8 3 2,Lf 9 1 8,Um 10 1,Ib 11 .mul 9 10,Uo 12 (.callS 86 [(Ut 11),(Uk 1073741824)]),Um 7 12,Ex 13 7 0,Ex 14 7 1,Um 5 13,Um 6 14]) (Sq (Rg [Um 15 5,Um 4 15]) .ret))) }
def F64 : AFun:={ fid:=79,nt:=21,rets:=[.tmp 2],body:=(Sq (Rg [Uo 1 (.box (Ut 0)),Uo 2 (.mov (.lit (.bool false)))]) (Sq (Rg [Fa 3 0 1,Lf 4 1 3,Uo 5 (.ibin .leq (Uk (-1048576)) (Ut 4)),Um 6 5,Ug 7 6 true (.fieldAddr 0 (Ut 1)),Ug 8 6 true (.load false 1 (Ut 7)),Ug 9 6 true (.ibin .leq (Ut 8) (Uk 1048576)),Pf 10 6 9,Um 11 10,Ug 12 11 true (.fieldAddr 1 (Ut 1)),Ug 13 11 true (.load false 1 (Ut 12)),Ug 14 11 true (.ibin .leq (Uk (-1048576)) (Ut 13)),Pf 15 11 14,Um 16 15,Ug 17 16 true (.fieldAddr 1 (Ut 1)),Ug 18 16 true (.load false 1 (Ut 17)),Ug 19 16 true (.ibin .leq (Ut 18) (Uk 1048576)),Pf 20 16 19,Um 2 20]) .ret)) }
def F65 : AFun:={ fid:=96,nt:=9,rets:=[.tmp 4],body:=(Sq (Rg [Uo 4 (.mov (.lit (.bool false)))]) (Sq (Rg [Um 5 0,Um 6 1,Uo 7 (.call false 87 [(Ut 5),(Ut 6)]),Ic 8 .geq 7 0,Um 4 8]) .ret)) }
def F66 : AFun:={ fid:=97,nt:=9,rets:=[.tmp 2],body:=(Sq (Rg [Uo 2 (.mov (.lit (.bool false)))]) (Sq (Rg [Um 3 0,Ic 4 .lss 3 1,Um 5 4,Un 6 0 5 false,Ug 7 5 false (.ibin .gtr (Ut 6) (Uk 1073741824)),Pt 8 5 7,Um 2 8]) .ret)) }
def bE6 : ACode:=(Rg [Fa 3 0 1,Lf 4 1 3,Ic 5 .lss 4 (-1048576),Um 6 5,Ug 7 6 false (.fieldAddr 0 (Ut 1)),Ug 8 6 false (.load false 1 (Ut 7)),Ug 9 6 false (.ibin .gtr (Ut 8) (Uk 1048576)),Pt 10 6 9,Um 11 10,Ug 12 11 false (.fieldAddr 1 (Ut 1)),Ug 13 11 false (.load false 1 (Ut 12)),Ug 14 11 false (.ibin .lss (Ut 13) (Uk (-1048576))),Pt 15 11 14,Um 16 15,Ug 17 16 false (.fieldAddr 1 (Ut 1)),Ug 18 16 false (.load false 1 (Ut 17)),Ug 19 16 false (.ibin .gtr (Ut 18) (Uk 1048576)),Pt 20 16 19,Um 2 20])
def F67 : AFun:={ fid:=98,nt:=21,rets:=[.tmp 2],body:=(Sq (Rg [Uo 1 (.box (Ut 0)),Uo 2 (.mov (.lit (.bool false)))]) (Sq (.told [false,true] [false,false,true] [false,false,true] bE6) .ret)) }
def F68 : AFun:={ fid:=99,nt:=9,rets:=[.tmp 4],body:=(Sq (Rg [Uo 4 (.mov (.lit (.bool false)))]) (Sq (Rg [Um 5 0,Um 6 1,Uo 7 (.call false 88 [(Ut 5),(Ut 6)]),Ic 8 .geq 7 0,Um 4 8]) .ret)) }
def F69 : AFun:={ fid:=100,nt:=9,rets:=[.tmp 4],body:=(Sq (Rg [Uo 4 (.mov (.lit (.bool false)))]) (Sq (Rg [Um 5 0,Um 6 1,Uo 7 (.callB 56 [(Ut 5),(Ut 6)]),Ic 8 .geq 7 0,Um 4 8]) .ret)) }
def bHd : ACode:=(Rg [Um 24 7,Ic 25 .neq 24 0,Um 26 25,Ug 27 26 false (.fieldAddr 1 (Ut 5)),Ug 28 26 false (.load false 1 (Ut 27)),Ug 29 26 false (.fieldAddr 2 (Ut 5)),Ug 30 26 false (.load false 1 (Ut 29)),Ug 31 26 false (.ibin .eql (Ut 28) (Ut 30)),Un 32 31 26 false,Un 33 6 32 true,Ug 34 32 true (.lenS (Ut 33)),Ug 35 32 true (.ibin .lss (Ut 34) (Uk 4)),Ug 36 26 false (.pick (Ut 32) (Ut 35) (.lit (.bool false))),Pt 37 26 36])
def bHc : ACode:=(Sq (Rg [Ib 46 .lss 45 44]) (Sq (.cond (Ut 46) .skip (.exit 2)) (Sq (.block 3 (Sq (Rg [Um 47 45,Um 9 47]) (Sq (Sq (.region true [] [Um 48 6,Um 49 9,Ia 50 2 48 49,La 51 2 50,Um 52 6,Um 53 9,Ic 54 .add 53 1,Ia 55 2 52 54,La 56 2 55,Uo 57 (.bin .eql 46 (Ut 51) (Ut 56))]) (.cond (Ut 57) (Sq (Rg [Uo 2 (.claim 2),Uo 3 (.mov (.lit (.bool false)))]) .ret) .skip)) (Rg [Um 58 2,Um 59 8,Um 60 9,Uo 61 (.build [(.pointer none),(.int .i64 0)] [(0,1,(Ut 59)),(1,1,(Ut 60))]),Uo 62 (.buildSl false 2 1 [(.pointer none),(.int .i64 0)] [(0,(Ut 61))]),Uo 63 (.append 2 16 (Ut 58) (Ut 62)),Um 2 63])))) (Rg [Ic 64 .add 45 1,Um 45 64]))))
def bHe : ACode:=(Sq (Rg [Ib 14 .lss 13 12]) (Sq (.cond (Ut 14) .skip (.exit 0)) (Sq (.block 1 (Sq (Rg [Ia 15 6 11 13,La 16 6 15,Uo 5 (.alloc [(.int .i64 0),(.int .i64 0),(.int .i64 0),nilS,(.int .i64 0),(.int .i64 0)]),⟨none,.store 6 (Ut 5) (Ut 16),none⟩]) (Sq (Rg [La 18 3 1,Fa 19 0 5,Lf 20 1 19,Uo 21 (.callB 37 [(Ut 18),(Ut 20)]),Um 17 21,Ex 22 17 0,Ex 23 17 1,Um 6 22,Um 7 23]) (Sq (Sq (.told [false,true,true,false,false,true,true,true,false,false,false,true,true,true] [false,true,true,false,false,true,true,false,false,false,false,true,true,true,false,false,false,false,false,false,false,false,false,false,false,false,false,false,false,false,false,false,false,false,false,false,false,true] [false,false,true,true] bHd) (.cond (Ut 37) (Sq (Rg [Uo 2 (.claim 2),Uo 3 (.mov (.lit (.bool false)))]) .ret) .skip)) (Sq (Rg [La 38 6 5,Um 39 6,Uo 40 (.build [(.int .i64 0),(.int .i64 0),(.int .i64 0),nilS,(.int .i64 0),(.int .i64 0),nilS] [(0,6,(Ut 38)),(6,1,(Ut 39))]),Uo 41 (.box (Ut 40)),Um 8 41]) (Sq (.frz 8 (Rg [Um 42 6,Ln 43 42,Ic 44 .sub 43 1,Uo 45 (.mov (Uk 0))])) (.block 2 (.mask [false,true,true,false,false,false,false,false,false,false,false,true,true,true] [false,false,true,true] true (.loop (some [false,true,true,false,false,false,true,false,true,false,false,true,true,true,false,false,false,false,false,false,false,false,false,false,false,false,false,false,false,false,false,false,false,false,false,false,false,false,false,false,false,false,false,false,true,true]) true bHc))))))))) (Rg [Ic 65 .add 13 1,Um 13 65]))))
def F70 : AFun:={ fid:=101,nt:=67,rets:=[.tmp 2,.tmp 3],body:=(Sq (Rg [Uo 1 (.box (Ut 0)),Uo 2 (.claim 2),Uo 3 (.mov (.lit (.bool false)))]) (Sq (Sq (Rg [Fa 10 1 1,Lf 11 1 10,Ln 12 11,Uo 13 (.mov (Uk 0))]) (.block 0 (.mask [false,false,true] [false,false,true,true] true (.loop (some [false,true,true,false,false,false,false,false,false,false,false,true,true,true]) true bHe)))) (Sq (Rg [Um 66 2,Um 2 66,Uo 3 (.mov (.lit (.bool true)))]) .ret))) }
def F71 : AFun:={ fid:=102,nt:=14,rets:=[],body:=.stop }
def F72 : AFun:={ fid:=103,nt:=10,rets:=[.tmp 4],body:=(Sq (Rg [Uo 2 (.box (Ut 0)),Uo 3 (.box (Ut 1)),Uo 4 (.mov (Uk 0))]) (Sq (.region true [] [La 5 2 2,Uo 6 (.callB 73 [(Ut 5)]),La 7 2 3,Uo 8 (.callB 73 [(Ut 7)]),Uo 9 (.callB 31 [(Ut 6),(Ut 8)]),Um 4 9]) .ret)) }
def F73 : AFun:={ fid:=104,nt:=15,rets:=[.tmp 2],body:=(Sq (Rg [Uo 1 (.box (Ut 0)),Uo 2 (.mov (Uk 0))]) (Sq (Rg [La 6 2 1,Uo 7 (.callB 76 [(Ut 6)]),Um 5 7,Ex 8 5 0,Ex 9 5 1,Uo 3 (.alloc [(.int .i64 0),(.int .i64 0)]),Uo 4 (.alloc [(.int .i64 0),(.int .i64 0)]),⟨none,.store 2 (Ut 3) (Ut 8),none⟩,⟨none,.store 2 (Ut 4) (Ut 9),none⟩]) (Sq (Rg [Fa 10 0 3,Lf 11 1 10,Fa 12 0 4,Lf 13 1 12,Uo 14 (.minmax false [(Ut 11),(Ut 13)]),Um 2 14]) .ret))) }
def F74 : AFun:={ fid:=105,nt:=15,rets:=[.tmp 2],body:=(Sq (Rg [Uo 1 (.box (Ut 0)),Uo 2 (.mov (Uk 0))]) (Sq (Rg [La 6 2 1,Uo 7 (.callB 76 [(Ut 6)]),Um 5 7,Ex 8 5 0,Ex 9 5 1,Uo 3 (.alloc [(.int .i64 0),(.int .i64 0)]),Uo 4 (.alloc [(.int .i64 0),(.int .i64 0)]),⟨none,.store 2 (Ut 3) (Ut 8),none⟩,⟨none,.store 2 (Ut 4) (Ut 9),none⟩]) (Sq (Rg [Fa 10 0 3,Lf 11 1 10,Fa 12 0 4,Lf 13 1 12,Uo 14 (.minmax true [(Ut 11),(Ut 13)]),Um 2 14]) .ret))) }
def bHb : ACode:=(Sq (Rg [Fa 43 1 3,Lf 44 1 43,Fa 45 1 4,Lf 46 1 45,Ib 47 .gtr 44 46]) (.cond (Ut 47) (Rg [La 48 2 4,La 49 2 3,⟨none,.store 2 (Ut 3) (Ut 48),none⟩,⟨none,.store 2 (Ut 4) (Ut 49),none⟩]) .skip))
def bHa : ACode:=(.region true [] [Fa 50 1 3,Lf 51 1 50,Ic 52 .add 51 1,Fa 53 1 4,Lf 54 1 53,Ib 55 .eql 52 54,Um 56 55,Ug 57 56 false (.fieldAddr 0 (Ut 3)),Ug 58 56 false (.load false 1 (Ut 57)),Ug 59 56 false (.nilCheck (Ut 58)),Ug 60 56 false (.fieldAddr 0 (Ut 59)),Ug 61 56 false (.fieldAddr 1 (Ut 60)),Ug 62 56 false (.load false 1 (Ut 61)),Ug 63 56 false (.fieldAddr 0 (Ut 3)),Ug 64 56 false (.load false 1 (Ut 63)),Ug 65 56 false (.nilCheck (Ut 64)),Ug 66 56 false (.fieldAddr 0 (Ut 65)),Ug 67 56 false (.fieldAddr 2 (Ut 66)),Ug 68 56 false (.load false 1 (Ut 67)),Ug 69 56 false (.ibin .eql (Ut 62) (Ut 68)),Un 70 69 56 false,Ug 71 70 true (.load true 2 (Ut 3)),Ug 72 70 true (.callB 78 [(Ut 71)]),Ug 73 56 false (.pick (Ut 70) (Ut 72) (.lit (.bool false))),Un 74 73 56 false,Ug 75 74 true (.load true 2 (Ut 4)),Ug 76 74 true (.callB 79 [(Ut 75)]),Ug 77 56 false (.pick (Ut 74) (Ut 76) (.lit (.bool false))),Pt 78 56 77])
def bE5 : ACode:=(Rg [Um 106 13,Fa 107 0 4,Lf 108 1 107,Uo 109 (.nilCheck (Ut 108)),Fa 110 0 109,Fa 111 1 110,Lf 112 1 111,Ib 113 .eql 106 112,Um 114 113,Un 115 13 114 false,Ug 116 114 false (.fieldAddr 0 (Ut 4)),Ug 117 114 false (.load false 1 (Ut 116)),Ug 118 114 false (.nilCheck (Ut 117)),Ug 119 114 false (.fieldAddr 0 (Ut 118)),Ug 120 114 false (.fieldAddr 2 (Ut 119)),Ug 121 114 false (.load false 1 (Ut 120)),Ug 122 114 false (.ibin .eql (Ut 115) (Ut 121)),Pt 123 114 122,Um 124 123,Ug 125 124 true (.load true 2 (Ut 7)),Ug 126 124 true (.load true 2 (Ut 8)),Ug 127 124 true (.load true 2 (Ut 14)),Ug 128 124 true (.callB 77 [(Ut 125),(Ut 126),(Ut 127)]),Pf 129 124 128,Um 130 129,Ug 131 130 true (.load true 2 (Ut 9)),Ug 132 130 true (.load true 2 (Ut 10)),Ug 133 130 true (.load true 2 (Ut 14)),Ug 134 130 true (.callB 77 [(Ut 131),(Ut 132),(Ut 133)]),Pf 135 130 134])
def aZb : ACode:=(Sq (Rg [Ic 101 .lss 100 2]) (Sq (.cond (Ut 101) .skip (.exit 0)) (Sq (.block 1 (Sq (Rg [Uo 102 (.index false 1 2 (Ut 99) (Ut 100)),Um 13 102]) (Sq (Rg [Um 103 2,Um 104 13,Uo 105 (.lookup 3 (.agg [(.int .i64 0),(.int .i64 0)]) (Ut 103) (Ut 104) false),Uo 14 (.alloc [(.int .i64 0),(.int .i64 0)]),⟨none,.store 2 (Ut 14) (Ut 105),none⟩]) (Sq (.told [false,false,true,false,true,false,false,true,true,true,true,false,false,true,true,false,false,false,false,false,false,false,false,false,false,false,false,false,false,false,false,false,false,false,false,false,false,false,false,false,false,false,false,false,false,false,false,false,false,false,false,false,false,false,false,false,false,false,false,false,false,false,false,false,false,false,false,false,false,false,false,false,false,false,false,false,false,false,false,false,false,false,false,false,false,false,false,false,false,false,false,false,false,false,false,false,false,false,false,true,true] [false,false,true,false,true,false,false,true,true,true,true,false,false,false,false,false,false,false,false,false,false,false,false,false,false,false,false,false,false,false,false,false,false,false,false,false,false,false,false,false,false,false,false,false,false,false,false,false,false,false,false,false,false,false,false,false,false,false,false,false,false,false,false,false,false,false,false,false,false,false,false,false,false,false,false,false,false,false,false,false,false,false,false,false,false,false,false,false,false,false,false,false,false,false,false,false,false,false,false,true,true,false,false,false,false,false,false,false,false,false,false,false,false,false,false,false,false,false,false,false,false,false,false,false,false,false,false,false,false,false,false,false,false,false,false,true] [false,false,false,false,false,false,true] bE5) (.cond (Ut 135) (Sq (Rg [Uo 6 (.mov (.lit (.bool true)))]) .ret) .skip))))) (Rg [Ic 136 .add 100 1,Um 100 136]))))
def F75 : AFun:={ fid:=106,nt:=137,rets:=[.tmp 6],body:=(Sq (Rg [Uo 3 (.box (Ut 0)),Uo 4 (.box (Ut 1)),Uo 6 (.mov (.lit (.bool false)))]) (Sq (Rg [La 16 2 3,Uo 17 (.callB 76 [(Ut 16)]),Um 15 17,Ex 18 15 0,Ex 19 15 1,Uo 7 (.alloc [(.int .i64 0),(.int .i64 0)]),Uo 8 (.alloc [(.int .i64 0),(.int .i64 0)]),⟨none,.store 2 (Ut 7) (Ut 18),none⟩,⟨none,.store 2 (Ut 8) (Ut 19),none⟩]) (Sq (Rg [La 21 2 4,Uo 22 (.callB 76 [(Ut 21)]),Um 20 22,Ex 23 20 0,Ex 24 20 1,Uo 9 (.alloc [(.int .i64 0),(.int .i64 0)]),Uo 10 (.alloc [(.int .i64 0),(.int .i64 0)]),⟨none,.store 2 (Ut 9) (Ut 23),none⟩,⟨none,.store 2 (Ut 10) (Ut 24),none⟩]) (Sq (Rg [La 25 2 7,La 26 2 8,La 27 2 9,La 28 2 10,Uo 29 (.callB 89 [(Ut 25),(Ut 26),(Ut 27),(Ut 28)]),Um 11 29]) (Sq (Sq (.region true [] [Fa 30 0 3,Lf 31 1 30,Uo 32 (.nilCheck (Ut 31)),Fa 33 0 32,Fa 34 0 33,Lf 35 1 34,Fa 36 0 4,Lf 37 1 36,Uo 38 (.nilCheck (Ut 37)),Fa 39 0 38,Fa 40 0 39,Lf 41 1 40,Ib 42 .eql 35 41]) (.cond (Ut 42) (Sq (.told [false,false,false,true,true,false,false,false,false,false,false,true] [false,false,false,true,true,false,false,false,false,false,false,true] [false,false,false,false,false,false,true] bHb) (Sq (Sq (.told [false,false,false,true,true,false,false,false,false,false,false,true] [false,false,false,false,false,false,false,false,false,false,false,true,false,false,false,false,false,false,false,false,false,false,false,false,false,false,false,false,false,false,false,false,false,false,false,false,false,false,false,false,false,false,false,false,false,false,false,false,false,false,false,false,false,false,false,false,false,false,false,false,false,false,false,false,false,false,false,false,false,false,false,false,false,false,false,false,false,false,true] [false,false,false,false,false,false,true] bHa) (.cond (Ut 78) (Sq (Rg [Um 79 11,Ic 80 .eql 79 1,Um 6 80]) .ret) .skip)) (Sq (Rg [Um 81 11,Ic 82 .eql 81 0,Um 6 82]) .ret))) .skip)) (Sq (Sq (Rg [Um 83 11,Ic 84 .neq 83 1]) (.cond (Ut 84) (Sq (Rg [Um 85 11,Ic 86 .eql 85 0,Um 6 86]) .ret) .skip)) (Sq (Sq (.region true [] [Fa 87 0 3,Lf 88 1 87,Uo 89 (.nilCheck (Ut 88)),Fa 90 0 89,Fa 91 1 90,Lf 92 1 91,Fa 93 0 3,Lf 94 1 93,Uo 95 (.nilCheck (Ut 94)),Fa 96 0 95,Fa 97 2 96,Lf 98 1 97,Uo 99 (.build [(.int .i64 0),(.int .i64 0)] [(0,1,(Ut 92)),(1,1,(Ut 98))]),Uo 100 (.mov (Uk 0))]) (.block 0 (.mask [] [false,false,false,false,false,false,true] true (.loop (some [false,false,true,false,true,false,false,true,true,true,true,false,false,false,false,false,false,false,false,false,false,false,false,false,false,false,false,false,false,false,false,false,false,false,false,false,false,false,false,false,false,false,false,false,false,false,false,false,false,false,false,false,false,false,false,false,false,false,false,false,false,false,false,false,false,false,false,false,false,false,false,false,false,false,false,false,false,false,false,false,false,false,false,false,false,false,false,false,false,false,false,false,false,false,false,false,false,false,false,true,true]) true aZb)))) (Sq (Rg [Uo 6 (.mov (.lit (.bool false)))]) .ret)))))))) }
def F76 : AFun:={ fid:=107,nt:=23,rets:=[.cell 2 2 true,.cell 3 2 true],body:=(Sq (Rg [Uo 1 (.box (Ut 0)),Uo 2 (.alloc [(.int .i64 0),(.int .i64 0)]),Uo 3 (.alloc [(.int .i64 0),(.int .i64 0)])]) (Sq (.region true [(10,19),(13,19),(15,19),(17,19),(18,19)] [Fa 4 0 1,Lf 5 1 4,Uo 6 (.nilCheck (Ut 5)),Fa 7 6 6,Lf 8 1 7,Fa 9 1 1,Lf 10 1 9,Ia 11 2 8 10,La 12 2 11,Fa 13 0 1,Lf 14 1 13,Uo 15 (.nilCheck (Ut 14)),Fa 16 6 15,Lf 17 1 16,Fa 18 1 1,Lf 19 1 18,Ic 20 .add 19 1,Ia 21 2 17 20,La 22 2 21,⟨none,.store 2 (Ut 2) (Ut 12),none⟩,⟨none,.store 2 (Ut 3) (Ut 22),none⟩]) .ret)) }
def bG9 : ACode:=(Rg [La 7 2 3,La 8 2 4,La 9 2 5,Uo 10 (.buildSl true 2 3 [(.int .i64 0),(.int .i64 0)] [(0,(Ut 7)),(1,(Ut 8)),(2,(Ut 9))]),Uo 11 (.callB 90 [(Ut 10)]),Nt 12 11,Um 13 12,Ug 14 13 false (.load true 2 (Ut 3)),Ug 15 13 false (.load true 2 (Ut 4)),Ug 16 13 false (.load true 2 (Ut 5)),Ug 17 13 false (.callB 91 [(Ut 14),(Ut 15),(Ut 16)]),Ug 18 13 false (.ibin .neq (Ut 17) (Uk 0)),Pt 19 13 18])
def bG8 : ACode:=(Rg [Fa 20 0 3,Lf 21 1 20,Fa 22 0 4,Lf 23 1 22,Uo 24 (.minmax false [(Ut 21),(Ut 23)]),Fa 25 0 5,Lf 26 1 25,Ib 27 .leq 24 26,Um 28 27,Ug 29 28 true (.fieldAddr 0 (Ut 5)),Ug 30 28 true (.load false 1 (Ut 29)),Ug 31 28 true (.fieldAddr 0 (Ut 3)),Ug 32 28 true (.load false 1 (Ut 31)),Ug 33 28 true (.fieldAddr 0 (Ut 4)),Ug 34 28 true (.load false 1 (Ut 33)),Ug 35 28 true (.minmax true [(Ut 32),(Ut 34)]),Ug 36 28 true (.ibin .leq (Ut 30) (Ut 35)),Pf 37 28 36,Um 38 37,Ug 39 38 true (.fieldAddr 1 (Ut 3)),Ug 40 38 true (.load false 1 (Ut 39)),Ug 41 38 true (.fieldAddr 1 (Ut 4)),Ug 42 38 true (.load false 1 (Ut 41)),Ug 43 38 true (.minmax false [(Ut 40),(Ut 42)]),Ug 44 38 true (.fieldAddr 1 (Ut 5)),Ug 45 38 true (.load false 1 (Ut 44)),Ug 46 38 true (.ibin .leq (Ut 43) (Ut 45)),Pf 47 38 46,Um 48 47,Ug 49 48 true (.fieldAddr 1 (Ut 5)),Ug 50 48 true (.load false 1 (Ut 49)),Ug 51 48 true (.fieldAddr 1 (Ut 3)),Ug 52 48 true (.load false 1 (Ut 51)),Ug 53 48 true (.fieldAddr 1 (Ut 4)),Ug 54 48 true (.load false 1 (Ut 53)),Ug 55 48 true (.minmax true [(Ut 52),(Ut 54)]),Ug 56 48 true (.ibin .leq (Ut 50) (Ut 55)),Pf 57 48 56,Um 6 57])
def F77 : AFun:={ fid:=108,nt:=58,rets:=[.tmp 6],body:=(Sq (Rg [Uo 3 (.box (Ut 0)),Uo 4 (.box (Ut 1)),Uo 5 (.box (Ut 2)),Uo 6 (.mov (.lit (.bool false)))]) (Sq (Sq (.told [false,false,false,true,true,true] [false,false,false,true,true,true,false,false,false,false,false,false,false,false,false,false,false,false,false,true] [false,false,false,false,false,false,true] bG9) (.cond (Ut 19) (Sq (Rg [Uo 6 (.mov (.lit (.bool false)))]) .ret) .skip)) (Sq (.told [false,false,false,true,true,true] [false,false,false,false,false,false,true] [false,false,false,false,false,false,true] bG8) .ret))) }
def F78 : AFun:={ fid:=109,nt:=6,rets:=[.tmp 2],body:=(Sq (Rg [Uo 1 (.box (Ut 0)),Uo 2 (.mov (.lit (.bool false)))]) (Sq (Rg [Fa 3 1 1,Lf 4 1 3,Ic 5 .eql 4 0,Um 2 5]) .ret)) }
def F79 : AFun:={ fid:=110,nt:=13,rets:=[.tmp 2],body:=(Sq (Rg [Uo 1 (.box (Ut 0)),Uo 2 (.mov (.lit (.bool false)))]) (Sq (.region true [] [Fa 3 1 1,Lf 4 1 3,Fa 5 0 1,Lf 6 1 5,Uo 7 (.nilCheck (Ut 6)),Fa 8 6 7,Lf 9 1 8,Ln 10 9,Ic 11 .sub 10 2,Ib 12 .eql 4 11,Um 2 12]) .ret)) }
def bG7 : ACode:=(Rg [La 7 2 3,La 8 2 4,La 9 2 5,Uo 10 (.buildSl true 2 3 [(.int .i64 0),(.int .i64 0)] [(0,(Ut 7)),(1,(Ut 8)),(2,(Ut 9))]),Uo 11 (.callB 90 [(Ut 10)]),Nt 12 11,Um 13 12,Ug 14 13 false (.load true 2 (Ut 4)),Ug 15 13 false (.load true 2 (Ut 3)),Ug 16 13 false (.bin .eql 46 (Ut 14) (Ut 15)),Pt 17 13 16,Um 18 17,Ug 19 18 false (.load true 2 (Ut 5)),Ug 20 18 false (.load true 2 (Ut 3)),Ug 21 18 false (.bin .eql 46 (Ut 19) (Ut 20)),Pt 22 18 21])
def F80 : AFun:={ fid:=71,nt:=38,rets:=[.tmp 6],body:=(Sq (Rg [Uo 3 (.box (Ut 0)),Uo 4 (.box (Ut 1)),Uo 5 (.box (Ut 2)),Uo 6 (.mov (.lit (.bool false)))]) (Sq (Sq (.told [false,false,false,true,true,true] [false,false,false,true,true,true,false,false,false,false,false,false,false,false,false,false,false,false,false,false,false,false,true] [false,false,false,false,false,false,true] bG7) (.cond (Ut 22) (Sq (Rg [Uo 6 (.mov (.lit (.bool false)))]) .ret) .skip)) (Sq (Sq (.region true [] [La 23 2 3,La 24 2 4,Uo 25 (.callB 92 [(Ut 23),(Ut 24)]),La 26 2 3,La 27 2 5,Uo 28 (.callB 92 [(Ut 26),(Ut 27)]),Uo 29 (.bin .neq 4 (Ut 25) (Ut 28))]) (.cond (Ut 29) (Sq (Rg [La 30 2 3,La 31 2 5,Uo 32 (.callB 92 [(Ut 30),(Ut 31)]),Um 6 32]) .ret) .skip)) (Sq (Rg [La 33 2 3,La 34 2 4,La 35 2 5,Uo 36 (.callB 91 [(Ut 33),(Ut 34),(Ut 35)]),Ic 37 .gtr 36 0,Um 6 37]) .ret)))) }
def F81 : AFun:={ fid:=124,nt:=8,rets:=[.tmp 2],body:=(Sq (Rg [Uo 2 (.mov (.lit nilS))]) (.nilIf 0 3 4 (Sq (Rg [Uo 2 (.mov (.lit nilS))]) .ret) (Sq (Rg [Uo 5 (.buildSl true 2 0 [(.int .i64 0),(.int .i64 0)] []),Um 6 0,Uo 7 (.append 2 16 (Ut 5) (Ut 6)),Um 2 7]) .ret))) }
def F82 : AFun:={ fid:=125,nt:=27,rets:=[.tmp 4],body:=(Sq (Rg [Uo 4 (.movN (.lit nilS))]) (Sq (Sq (Rg [Um 5 1,Ic 6 .lss 5 0]) (.cond (Ut 6) .stop .skip)) (Sq (Sq (Rg [Um 8 1,Um 9 0,Uo 10 (.capS (Ut 9)),Um 11 0,Ln 12 11,Ib 13 .sub 10 12,Ib 14 .sub 8 13,Um 1 14]) (Sq (Rg [Um 15 1,Ic 16 .gtr 15 0]) (.cond (Ut 16) (Rg [Um 17 0,Um 18 0,Uo 19 (.capS (Ut 18)),Uo 20 (.slice 2 (Ut 17) none (some (Ut 19)) none),Um 21 1,Uo 22 (.appendZ 2 16 [(.int .i64 0),(.int .i64 0)] (Ut 20) (Ut 21)),Um 23 0,Ln 24 23,Uo 25 (.slice 2 (Ut 22) none (some (Ut 24)) none),Um 0 25]) .skip))) (Sq (Rg [Um 26 0,Um 4 26]) .ret)))) }
def bG6 : ACode:=(Rg [Fa 13 1 5,Lf 14 1 13,Fa 15 1 2,Lf 16 1 15,Ib 17 .leq 14 16,Um 18 17,Ug 19 18 true (.fieldAddr 1 (Ut 2)),Ug 20 18 true (.load false 1 (Ut 19)),Ug 21 18 true (.fieldAddr 1 (Ut 6)),Ug 22 18 true (.load false 1 (Ut 21)),Ug 23 18 true (.ibin .lss (Ut 20) (Ut 22)),Pf 24 18 23,Um 25 24,Ug 26 25 true (.load true 2 (Ut 5)),Ug 27 25 true (.load true 2 (Ut 6)),Ug 28 25 true (.load true 2 (Ut 2)),Ug 29 25 true (.callB 93 [(Ut 26),(Ut 27),(Ut 28)]),Ug 30 25 true (.ibin .gtr (Ut 29) (Uk 0)),Pf 31 25 30,Um 12 31])
def bG5 : ACode:=(Rg [Fa 35 1 6,Lf 36 1 35,Fa 37 1 2,Lf 38 1 37,Ib 39 .leq 36 38,Um 40 39,Ug 41 40 true (.fieldAddr 1 (Ut 2)),Ug 42 40 true (.load false 1 (Ut 41)),Ug 43 40 true (.fieldAddr 1 (Ut 5)),Ug 44 40 true (.load false 1 (Ut 43)),Ug 45 40 true (.ibin .lss (Ut 42) (Ut 44)),Pf 46 40 45,Um 47 46,Ug 48 47 true (.load true 2 (Ut 5)),Ug 49 47 true (.load true 2 (Ut 6)),Ug 50 47 true (.load true 2 (Ut 2)),Ug 51 47 true (.callB 93 [(Ut 48),(Ut 49),(Ut 50)]),Ug 52 47 true (.ibin .lss (Ut 51) (Uk 0)),Pf 53 47 52,Um 34 53])
def F83 : AFun:={ fid:=127,nt:=56,rets:=[],body:=(Sq (Rg [Uo 5 (.box (Ut 0)),Uo 6 (.box (Ut 1))]) (.block 0 (Sq (Rg [La 8 2 5,La 9 2 6,La 10 2 2,Uo 11 (.callB 77 [(Ut 8),(Ut 9),(Ut 10)]),Um 7 11]) (.cond (Ut 7) (Rg [⟨none,.store 1 (Ut 3) (.lit (.bool true)),none⟩]) (Sq (.told [false,false,true,false,true,true,true] [false,false,true,false,true,true,true,false,false,false,false,false,true] [] bG6) (.cond (Ut 12) (Rg [Lf 32 1 4,Nt 33 32,⟨none,.store 1 (Ut 4) (Ut 33),none⟩]) (Sq (.told [false,false,true,false,true,true,true] [false,false,false,false,true,false,false,false,false,false,false,false,false,false,false,false,false,false,false,false,false,false,false,false,false,false,false,false,false,false,false,false,false,false,true] [] bG5) (.cond (Ut 34) (Rg [Lf 54 1 4,Nt 55 54,⟨none,.store 1 (Ut 4) (Ut 55),none⟩]) .skip)))))))) }
def bE4 : ACode:=(Sq (Sq (Rg [Um 22 9,Um 23 8,Ln 24 23,Ib 25 .lss 22 24]) (.cond (Ut 25) .skip (.exit 2))) (Sq (.block 3 (.region true [] [Um 28 2,Um 29 8,Um 30 9,Ic 31 .sub 30 1,Ia 32 2 29 31,La 33 2 32,Um 34 8,Um 35 9,Ia 36 2 34 35,La 37 2 36,Uo 38 (.callv false (Ut 28) [(Ut 33),(Ut 37)])])) (Rg [Um 26 9,Ic 27 .add 26 1,Um 9 27])))
def bG4 : ACode:=(Sq (Rg [Ib 13 .lss 12 11]) (Sq (.cond (Ut 13) .skip (.exit 0)) (Sq (.block 1 (Sq (Rg [Ia 14 1 10 12,Lf 15 1 14,Um 7 15]) (Sq (Rg [Um 16 0,Um 17 7,Um 18 7,Uo 19 (.un .neg (Ut 18)),Uo 20 (.minmax true [(Ut 17),(Ut 19)]),Uo 21 (.lookup 3 (.lit nilS) (Ut 16) (Ut 20) false),Um 8 21]) (Sq (Rg [Uo 9 (.mov (Uk 1))]) (.block 2 (.mask [true,false,true,false,false,false,false,false,false,false,true,true,true] [] true (.loop (some [true,false,true,false,false,false,false,false,true,true,true,true,true]) true bE4))))))) (Rg [Ic 39 .add 12 1,Um 12 39]))))
def F84 : AFun:={ fid:=126,nt:=40,rets:=[],body:=(Sq (Rg [Um 10 1,Ln 11 10,Uo 12 (.mov (Uk 0))]) (.block 0 (.mask [] [] true (.loop (some [true,false,true,false,false,false,false,false,false,false,true,true,true]) true bG4)))) }
def F85 : AFun:={ fid:=81,nt:=16,rets:=[.tmp 2],body:=(Sq (Rg [Uo 2 (.mov (Uk 0))]) (Sq (Sq (Rg [Um 3 0,Ic 4 .lss 3 (-2147483648),Um 5 4,Un 6 0 5 false,Ug 7 5 false (.ibin .gtr (Ut 6) (Uk 2147483648)),Pt 8 5 7]) (.cond (Ut 8) (Sq .stop .ret) .skip)) (Sq (Rg [Um 10 0,Ic 11 .mul 10 3373259426,Uo 12 (.callS 86 [(Ut 11),(Uk 648000)]),Um 9 12,Ex 13 9 0,Ex 14 9 1,Um 2 13]) (Sq (Rg [Um 15 2,Um 2 15]) .ret)))) }
def F86 : AFun:={ fid:=84,nt:=33,rets:=[.tmp 4,.tmp 5],body:=(Sq (Rg [Uo 4 (.mov (Uk 0)),Uo 5 (.mov (Uk 0))]) (Sq (Rg [Um 9 0,Um 10 1,Uo 11 (.callS 94 [(Ut 9),(Ut 10)]),Um 8 11,Ex 12 8 0,Ex 13 8 1,Um 4 12,Um 5 13]) (Sq (Sq (Rg [Um 14 5,Ic 15 .neq 14 0]) (.cond (Ut 15) (Sq .stop .ret) .skip)) (Sq (Rg [Um 17 0,Um 18 4,Um 19 1,Ib 20 .mul 18 19,Ib 21 .sub 17 20,Uo 22 (.callS 95 [(Ut 21)]),Um 23 1,Uo 24 (.callS 95 [(Ut 23)]),Um 6 22,Um 7 24]) (Sq (Sq (Rg [Um 25 6,Um 26 7,Um 27 6,Ib 28 .sub 26 27,Ib 29 .geq 25 28]) (.cond (Ut 29) (Rg [Um 30 4,Ic 31 .add 30 1,Um 4 31]) .skip)) (Sq (Rg [Um 32 4,Um 4 32,Uo 5 (.mov (Uk 0))]) .ret)))))) }
def bG3 : ACode:=(Sq (Rg [Ib 9 .lss 8 7]) (Sq (.cond (Ut 9) .skip (.exit 0)) (Sq (.block 1 (Sq (Rg [Um 10 8,Um 5 10]) (Sq (Rg [Um 11 1,Um 12 0,Um 13 5,Ia 14 1 12 13,Lf 15 1 14,Uo 16 (.callv true (Ut 11) [(Ut 15)])]) (.cond (Ut 16) (Sq (Rg [Um 17 5,Um 4 17]) .ret) .skip)))) (Rg [Ic 18 .add 8 1,Um 8 18]))))
def F87 : AFun:={ fid:=135,nt:=19,rets:=[.tmp 4],body:=(Sq (Rg [Uo 4 (.mov (Uk 0))]) (Sq (Sq (Rg [Um 6 0,Ln 7 6,Uo 8 (.mov (Uk 0))]) (.block 0 (.mask [] [false,false,false,false,true] false (.loop (some [true,true,false,false,false,false,false,true,true]) false bG3)))) (Sq (Rg [Uo 4 (.mov (Uk (-1)))]) .ret))) }
def bG2 : ACode:=(Sq (Rg [Ib 9 .lss 8 7]) (Sq (.cond (Ut 9) .skip (.exit 0)) (Sq (.block 1 (Sq (Rg [Um 10 8,Um 5 10]) (Sq (Rg [Um 11 1,Um 12 0,Um 13 5,Ia 14 2 12 13,La 15 2 14,Uo 16 (.callv true (Ut 11) [(Ut 15)])]) (.cond (Ut 16) (Sq (Rg [Um 17 5,Um 4 17]) .ret) .skip)))) (Rg [Ic 18 .add 8 1,Um 8 18]))))
def F88 : AFun:={ fid:=136,nt:=19,rets:=[.tmp 4],body:=(Sq (Rg [Uo 4 (.mov (Uk 0))]) (Sq (Sq (Rg [Um 6 0,Ln 7 6,Uo 8 (.mov (Uk 0))]) (.block 0 (.mask [] [false,false,false,false,true] false (.loop (some [true,true,false,false,false,false,false,true,true]) false bG2)))) (Sq (Rg [Uo 4 (.mov (Uk (-1)))]) .ret))) }
def bG1 : ACode:=(Rg [La 56 2 4,La 57 2 5,La 58 2 6,Uo 59 (.callB 93 [(Ut 56),(Ut 57),(Ut 58)]),Ic 60 .eql 59 0,Um 61 60,Ug 62 61 true (.load true 2 (Ut 4)),Ug 63 61 true (.load true 2 (Ut 5)),Ug 64 61 true (.load true 2 (Ut 7)),Ug 65 61 true (.callB 93 [(Ut 62),(Ut 63),(Ut 64)]),Ug 66 61 true (.ibin .eql (Ut 65) (Uk 0)),Pf 67 61 66,Um 55 67])
def bG0 : ACode:=(.region true [] [La 17 2 4,La 18 2 5,La 19 2 6,Uo 20 (.callB 93 [(Ut 17),(Ut 18),(Ut 19)]),La 21 2 4,La 22 2 5,La 23 2 7,Uo 24 (.callB 93 [(Ut 21),(Ut 22),(Ut 23)]),Ib 25 .mul 20 24,Ic 26 .leq 25 0,Um 27 26,Ug 28 27 true (.load true 2 (Ut 6)),Ug 29 27 true (.load true 2 (Ut 7)),Ug 30 27 true (.load true 2 (Ut 4)),Ug 31 27 true (.callB 93 [(Ut 28),(Ut 29),(Ut 30)]),Ug 32 27 true (.load true 2 (Ut 6)),Ug 33 27 true (.load true 2 (Ut 7)),Ug 34 27 true (.load true 2 (Ut 5)),Ug 35 27 true (.callB 93 [(Ut 32),(Ut 33),(Ut 34)]),Ug 36 27 true (.ibin .mul (Ut 31) (Ut 35)),Ug 37 27 true (.ibin .leq (Ut 36) (Uk 0)),Pf 38 27 37,Um 9 38])
def F89 : AFun:={ fid:=138,nt:=74,rets:=[.tmp 8],body:=(Sq (Rg [Uo 4 (.box (Ut 0)),Uo 5 (.box (Ut 1)),Uo 6 (.box (Ut 2)),Uo 7 (.box (Ut 3)),Uo 8 (.mov (Uk 0))]) (Sq (Sq (Rg [La 10 2 4,La 11 2 5,La 12 2 6,La 13 2 7,Uo 14 (.buildSl true 2 4 [(.int .i64 0),(.int .i64 0)] [(0,(Ut 10)),(1,(Ut 11)),(2,(Ut 12)),(3,(Ut 13))]),Uo 15 (.callB 90 [(Ut 14)]),Nt 16 15]) (.cond (Ut 16) (Sq (Rg [Uo 8 (.mov (Uk 0))]) .ret) .skip)) (Sq (Rg [Uo 9 (.mov (.lit (.bool false)))]) (Sq (.block 0 (Sq (Rg [La 40 2 4,La 41 2 5,Uo 42 (.bin .eql 46 (Ut 40) (Ut 41)),Um 39 42]) (.cond (Ut 39) (Rg [La 43 2 6,La 44 2 7,La 45 2 4,Uo 46 (.callB 77 [(Ut 43),(Ut 44),(Ut 45)]),Um 9 46]) (Sq (Rg [La 48 2 6,La 49 2 7,Uo 50 (.bin .eql 46 (Ut 48) (Ut 49)),Um 47 50]) (.cond (Ut 47) (Rg [La 51 2 4,La 52 2 5,La 53 2 6,Uo 54 (.callB 77 [(Ut 51),(Ut 52),(Ut 53)]),Um 9 54]) (Sq (.told [false,false,false,false,true,true,true,true] [false,false,false,false,true,true,true,true,false,true,false,false,false,false,false,false,false,false,false,false,false,false,false,false,false,false,false,false,false,false,false,false,false,false,false,false,false,false,false,false,false,false,false,false,false,false,false,false,false,false,false,false,false,false,false,true] [false,false,false,false,false,false,false,false,true] bG1) (.cond (Ut 55) (Sq (Rg [La 68 2 4,La 69 2 5,La 70 2 6,La 71 2 7,Uo 72 (.callB 96 [(Ut 68),(Ut 69),(Ut 70),(Ut 71)]),Um 8 72]) .ret) (.told [false,false,false,false,true,true,true,true] [false,false,false,false,false,false,false,false,false,true] [false,false,false,false,false,false,false,false,true] bG0)))))))) (Sq (Sq (Rg [Um 73 9]) (.cond (Ut 73) (Sq (Rg [Uo 8 (.mov (Uk 1))]) .ret) .skip)) (Sq (Rg [Uo 8 (.mov (Uk 0))]) .ret)))))) }
def bGy : ACode:=(Rg [Fa 11 0 4,Lf 12 1 11,Ic 13 .lss 12 (-2097152),Um 14 13,Ug 15 14 false (.fieldAddr 0 (Ut 4)),Ug 16 14 false (.load false 1 (Ut 15)),Ug 17 14 false (.ibin .gtr (Ut 16) (Uk 2097152)),Pt 18 14 17,Um 19 18,Ug 20 19 false (.fieldAddr 1 (Ut 4)),Ug 21 19 false (.load false 1 (Ut 20)),Ug 22 19 false (.ibin .lss (Ut 21) (Uk (-2097152))),Pt 23 19 22,Um 24 23,Ug 25 24 false (.fieldAddr 1 (Ut 4)),Ug 26 24 false (.load false 1 (Ut 25)),Ug 27 24 false (.ibin .gtr (Ut 26) (Uk 2097152)),Pt 28 24 27])
def bGz : ACode:=(Sq (Rg [Ib 8 .lss 7 6]) (Sq (.cond (Ut 8) .skip (.exit 0)) (Sq (.block 1 (Sq (Rg [Ia 9 2 5 7,La 10 2 9,Uo 4 (.alloc [(.int .i64 0),(.int .i64 0)]),⟨none,.store 2 (Ut 4) (Ut 10),none⟩]) (Sq (.told [false,false,false,false,true,true,true,true] [false,false,false,false,false,true,true,true,false,false,false,false,false,false,false,false,false,false,false,false,false,false,false,false,false,false,false,false,true] [false,false,true] bGy) (.cond (Ut 28) (Sq (Rg [Uo 2 (.mov (.lit (.bool false)))]) .ret) .skip)))) (Rg [Ic 29 .add 7 1,Um 7 29]))))
def F90 : AFun:={ fid:=112,nt:=30,rets:=[.tmp 2],body:=(Sq (Rg [Uo 2 (.mov (.lit (.bool false)))]) (Sq (Sq (Rg [Um 5 0,Ln 6 5,Uo 7 (.mov (Uk 0))]) (.block 0 (.mask [] [false,false,true] true (.loop (some [false,false,false,false,false,true,true,true]) true bGz)))) (Sq (Rg [Uo 2 (.mov (.lit (.bool true)))]) .ret))) }
def F91 : AFun:={ fid:=114,nt:=30,rets:=[.tmp 6],body:=(Sq (Rg [Uo 3 (.box (Ut 0)),Uo 4 (.box (Ut 1)),Uo 5 (.box (Ut 2)),Uo 6 (.mov (Uk 0))]) (Sq (Rg [Fa 7 0 4,Lf 8 1 7,Fa 9 0 3,Lf 10 1 9,Ib 11 .sub 8 10,Fa 12 1 5,Lf 13 1 12,Fa 14 1 3,Lf 15 1 14,Ib 16 .sub 13 15,Ib 17 .mul 11 16,Fa 18 1 4,Lf 19 1 18,Fa 20 1 3,Lf 21 1 20,Ib 22 .sub 19 21,Fa 23 0 5,Lf 24 1 23,Fa 25 0 3,Lf 26 1 25,Ib 27 .sub 24 26,Ib 28 .mul 22 27,Ib 29 .sub 17 28,Um 6 29]) .ret)) }
def bGx : ACode:=(Rg [Fa 5 1 3,Lf 6 1 5,Fa 7 1 2,Lf 8 1 7,Ib 9 .lss 6 8,Um 10 9,Ug 11 10 false (.fieldAddr 1 (Ut 3)),Ug 12 10 false (.load false 1 (Ut 11)),Ug 13 10 false (.fieldAddr 1 (Ut 2)),Ug 14 10 false (.load false 1 (Ut 13)),Ug 15 10 false (.ibin .eql (Ut 12) (Ut 14)),Un 16 15 10 false,Ug 17 16 true (.fieldAddr 0 (Ut 3)),Ug 18 16 true (.load false 1 (Ut 17)),Ug 19 16 true (.fieldAddr 0 (Ut 2)),Ug 20 16 true (.load false 1 (Ut 19)),Ug 21 16 true (.ibin .lss (Ut 18) (Ut 20)),Ug 22 10 false (.pick (Ut 16) (Ut 21) (.lit (.bool false))),Pt 23 10 22,Um 4 23])
def F92 : AFun:={ fid:=113,nt:=24,rets:=[.tmp 4],body:=(Sq (Rg [Uo 2 (.box (Ut 0)),Uo 3 (.box (Ut 1)),Uo 4 (.mov (.lit (.bool false)))]) (Sq (.told [false,false,true,true] [false,false,false,false,true] [false,false,false,false,true] bGx) .ret)) }
def F93 : AFun:={ fid:=128,nt:=18,rets:=[.tmp 6],body:=(Sq (Rg [Uo 3 (.box (Ut 0)),Uo 4 (.box (Ut 1)),Uo 5 (.box (Ut 2)),Uo 6 (.mov (Uk 0))]) (Sq (Rg [La 8 2 3,La 9 2 4,La 10 2 5,Uo 11 (.callB 97 [(Ut 8),(Ut 9),(Ut 10)]),Um 7 11]) (Sq (.block 0 (Sq (Rg [Um 13 7,Ic 14 .gtr 13 0,Um 12 14]) (.cond (Ut 12) (Sq (Rg [Uo 6 (.mov (Uk 1))]) .ret) (Sq (Rg [Um 16 7,Ic 17 .lss 16 0,Um 15 17]) (.cond (Ut 15) (Sq (Rg [Uo 6 (.mov (Uk (-1)))]) .ret) .skip))))) (Sq (Rg [Uo 6 (.mov (Uk 0))]) .ret)))) }
def F94 : AFun:={ fid:=129,nt:=31,rets:=[.tmp 4,.tmp 5],body:=(Sq (Rg [Uo 4 (.mov (Uk 0)),Uo 5 (.mov (Uk 0))]) (Sq (Sq (Rg [Um 7 0,Um 8 1,Uo 9 (.callS 98 [(Ut 7),(Ut 8)]),Um 5 9]) (Sq (Rg [Um 10 5,Ic 11 .neq 10 0]) (.cond (Ut 11) (Sq .stop .ret) .skip))) (Sq (Rg [Um 13 0,Um 14 1,Uo 15 (.bin .quo 3 (Ut 13) (Ut 14)),Um 4 15]) (Sq (Sq (Rg [Um 16 0,Um 17 1,Uo 18 (.bin .rem 3 (Ut 16) (Ut 17)),Um 6 18]) (Sq (Rg [Um 19 6,Ic 20 .neq 19 0,Um 21 20,Un 22 6 21 true,Ug 23 21 true (.ibin .lss (Ut 22) (Uk 0)),Un 24 1 21 true,Ug 25 21 true (.ibin .lss (Ut 24) (Uk 0)),Ug 26 21 true (.bin .neq 4 (Ut 23) (Ut 25)),Pf 27 21 26]) (.cond (Ut 27) .stop .skip))) (Sq (Rg [Um 30 4,Um 4 30,Uo 5 (.mov (Uk 0))]) .ret))))) }
def F95 : AFun:={ fid:=130,nt:=10,rets:=[.tmp 2],body:=(Sq (Rg [Uo 2 (.mov (.lit (.int .u64 0)))]) (Sq (Sq (Rg [Um 3 0,Ic 4 .lss 3 0]) (.cond (Ut 4) (Sq .stop .ret) .skip)) (Sq (Rg [Um 8 0,Uo 9 (.conv 3 118 (Ut 8)),Um 2 9]) .ret))) }
def bGw : ACode:=(Sq (Rg [La 11 2 5,La 12 2 4,Uo 13 (.callB 99 [(Ut 11),(Ut 12)])]) (.cond (Ut 13) (Rg [La 14 2 5,La 15 2 4,⟨none,.store 2 (Ut 4) (Ut 14),none⟩,⟨none,.store 2 (Ut 5) (Ut 15),none⟩]) .skip))
def bGv : ACode:=(Sq (Rg [La 16 2 7,La 17 2 6,Uo 18 (.callB 99 [(Ut 16),(Ut 17)])]) (.cond (Ut 18) (Rg [La 19 2 7,La 20 2 6,⟨none,.store 2 (Ut 6) (Ut 19),none⟩,⟨none,.store 2 (Ut 7) (Ut 20),none⟩]) .skip))
def bGu : ACode:=(Sq (Rg [La 23 2 9,La 24 2 6,Uo 25 (.callB 99 [(Ut 23),(Ut 24)])]) (.cond (Ut 25) (Rg [La 26 2 6,⟨none,.store 2 (Ut 9) (Ut 26),none⟩]) .skip))
def bGt : ACode:=(Sq (Rg [La 27 2 7,La 28 2 10,Uo 29 (.callB 99 [(Ut 27),(Ut 28)])]) (.cond (Ut 29) (Rg [La 30 2 7,⟨none,.store 2 (Ut 10) (Ut 30),none⟩]) .skip))
def F96 : AFun:={ fid:=161,nt:=39,rets:=[.tmp 8],body:=(Sq (Rg [Uo 4 (.box (Ut 0)),Uo 5 (.box (Ut 1)),Uo 6 (.box (Ut 2)),Uo 7 (.box (Ut 3)),Uo 8 (.mov (Uk 0))]) (Sq (.told [false,false,false,false,true,true,true,true] [false,false,false,false,true,true,true,true] [false,false,false,false,false,false,false,false,true] bGw) (Sq (.told [false,false,false,false,true,true,true,true] [false,false,false,false,true,true,true,true] [false,false,false,false,false,false,false,false,true] bGv) (Sq (.region true [(0,2),(1,2),(0,3),(1,3),(1,4)] [La 21 2 4,La 22 2 5,Uo 9 (.alloc [(.int .i64 0),(.int .i64 0)]),Uo 10 (.alloc [(.int .i64 0),(.int .i64 0)]),⟨none,.store 2 (Ut 9) (Ut 21),none⟩,⟨none,.store 2 (Ut 10) (Ut 22),none⟩]) (Sq (.told [false,false,false,false,false,false,true,true,false,true,true] [false,false,false,false,false,false,false,true,false,true,true] [false,false,false,false,false,false,false,false,true] bGu) (Sq (.told [false,false,false,false,false,false,false,true,false,true,true] [false,false,false,false,false,false,false,false,false,true,true] [false,false,false,false,false,false,false,false,true] bGt) (Sq (.block 0 (Sq (Rg [La 32 2 9,La 33 2 10,Uo 34 (.bin .eql 46 (Ut 32) (Ut 33)),Um 31 34]) (.cond (Ut 31) (Sq (Rg [Uo 8 (.mov (Uk 1))]) .ret) (Sq (Rg [La 36 2 9,La 37 2 10,Uo 38 (.callB 99 [(Ut 36),(Ut 37)]),Um 35 38]) (.cond (Ut 35) (Sq (Rg [Uo 8 (.mov (Uk 2))]) .ret) .skip))))) (Sq (Rg [Uo 8 (.mov (Uk 0))]) .ret)))))))) }
def F97 : AFun:={ fid:=150,nt:=17,rets:=[.tmp 6],body:=(Sq (Rg [Uo 3 (.box (Ut 0)),Uo 4 (.box (Ut 1)),Uo 5 (.box (Ut 2)),Uo 6 (.mov (Uk 0))]) (Sq (Sq (Rg [La 7 2 3,La 8 2 4,La 9 2 5,Uo 10 (.buildSl true 2 3 [(.int .i64 0),(.int .i64 0)] [(0,(Ut 7)),(1,(Ut 8)),(2,(Ut 9))]),Uo 11 (.callB 90 [(Ut 10)]),Nt 12 11]) (.cond (Ut 12) (Sq (Rg [Uo 6 (.mov (Uk 0))]) .ret) .skip)) (Sq (Rg [La 13 2 3,La 14 2 4,La 15 2 5,Uo 16 (.callB 91 [(Ut 13),(Ut 14),(Ut 15)]),Um 6 16]) .ret))) }
def F98 : AFun:={ fid:=151,nt:=13,rets:=[.tmp 4],body:=(Sq (Rg [Uo 4 (.mov (Uk 0))]) (Sq (Sq (Rg [Um 5 1,Ic 6 .eql 5 0]) (.cond (Ut 6) (Sq .stop .ret) .skip)) (Sq (Sq (Rg [Um 7 0,Ic 8 .eql 7 (-9223372036854775808),Um 9 8,Un 10 1 9 true,Ug 11 9 true (.ibin .eql (Ut 10) (Uk (-1))),Pf 12 9 11]) (.cond (Ut 12) (Sq .stop .ret) .skip)) (Sq (Rg [Uo 4 (.mov (Uk 0))]) .ret)))) }
def bGs : ACode:=(Rg [Fa 5 0 2,Lf 6 1 5,Fa 7 0 3,Lf 8 1 7,Ib 9 .lss 6 8,Um 10 9,Ug 11 10 false (.fieldAddr 0 (Ut 2)),Ug 12 10 false (.load false 1 (Ut 11)),Ug 13 10 false (.fieldAddr 0 (Ut 3)),Ug 14 10 false (.load false 1 (Ut 13)),Ug 15 10 false (.ibin .eql (Ut 12) (Ut 14)),Un 16 15 10 false,Ug 17 16 true (.fieldAddr 1 (Ut 2)),Ug 18 16 true (.load false 1 (Ut 17)),Ug 19 16 true (.fieldAddr 1 (Ut 3)),Ug 20 16 true (.load false 1 (Ut 19)),Ug 21 16 true (.ibin .lss (Ut 18) (Ut 20)),Ug 22 10 false (.pick (Ut 16) (Ut 21) (.lit (.bool false))),Pt 23 10 22,Um 4 23])
def F99 : AFun:={ fid:=172,nt:=24,rets:=[.tmp 4],body:=(Sq (Rg [Uo 2 (.box (Ut 0)),Uo 3 (.box (Ut 1)),Uo 4 (.mov (.lit (.bool false)))]) (Sq (.told [false,false,true,true] [false,false,false,false,true] [false,false,false,false,true] bGs) .ret)) }
end Go.Proofs.YtapabkfjeiknbaaGreat.Av
namespace Go.Proofs.YtapabkfjeiknbaaGreat.Av
open Go
theorem iB [GlobT] {α : Type} {P : Program} {a : α} {w : World} : ∀ {s : Sem α},eD P s=some a→s.run P w=.ok a w
 | .pure _,h=>by simp only [eD,Option.some.injEq] at h; subst h; rfl
 | .program k,h=>by
  simp only [eD] at h
  simp only [Sem.run]
  exact iB h
 | .mark _ k,h=>by
  simp only [eD] at h
  simp only [Sem.run]
  exact iB h
 | .load ..,h=>by simp [eD] at h
 | .store ..,h=>by simp [eD] at h
 | .new ..,h=>by simp [eD] at h
 | .shape ..,h=>by simp [eD] at h
 | .freeze ..,h=>by simp [eD] at h
 | .frozen ..,h=>by simp [eD] at h
 | .getObj ..,h=>by simp [eD] at h
 | .setObj ..,h=>by simp [eD] at h
 | .choose ..,h=>by simp [eD] at h
 | .sys ..,h=>by simp [eD] at h
 | .halt ..,h=>by simp [eD] at h
section inv
variable {FT : Nat→Option Nat} {c : Ctx} {v : Value}
theorem RV.ptr_inv {id tot idx off : Nat} (h : RV FT c (.ptr id tot idx off) v) : ∃ a s n,v=.pointer (some a)∧shp c.H id=some (s,n)∧tot ≤ n ∧
  (tot=n→∃ b,c.β id=some b∧a=⟨b,idx * s + off,none⟩):=by
 cases h with
 | pure _ _ hp=>cases hp
 | ptr _ _ _ _ a s n h1 h2 h3=>exact ⟨a,s,n,rfl,h1,h2,h3⟩
theorem RV.ms_inv {id tot off len : Nat} (h : RV FT c (.ms id tot off len) v) : ∃ a cap s n,v=.slice a len cap∧shp c.H id=some (s,n)∧tot ≤ n∧len ≤ cap ∧
  (tot=n→MsOk c id tot off len a cap s):=by
 cases h with
 | pure _ _ hp=>cases hp
 | ms _ _ _ _ a cap s n h1 h2 h3 h4=>exact ⟨a,cap,s,n,rfl,h1,h2,h3,h4⟩
theorem RV.sl_inv {f : Bool} {es : List (List AV)} (h : RV FT c (.sl f es) v) : RP c.w (Imm c) (.sl f es) v:=by
 cases h with
 | pure _ _ hp=>exact hp
theorem RV.rptr_inv {cs : List AV} (h : RV FT c (.rptr cs) v) : ∃ (b off : Nat) (cc : Array Value) (T : TypeId) (fz : Nat × Nat) (vals : Nat→Value),v=.pointer (some ⟨b,off,none⟩)∧Vis c b ∧
  c.w.heap[b]? = some (.cells cc T fz)∧(∀ (j : Nat) (x : AV),cs[j]? = some x→cc[off + j]? = some (vals j)∧gA (vals j)=true) ∧
  (∀ (j : Nat) (x : AV),cs[j]? = some x→RP c.w (Imm c) x (vals j)):=by
 cases h with
 | pure _ _ hp=>cases hp
 | rptr _ b off cc T fz vals h1 h2 h3 h4=>exact ⟨b,off,cc,T,fz,vals,rfl,h1,h2,h3,h4⟩
theorem RV.sptr_inv {cs : List AV} (h : RV FT c (.sptr cs) v) : RV FT c (.rptr cs) v:=by
 cases h with
 | pure _ _ hp=>cases hp with
  | sptr _ b off cc T fz vals h1 h2 h3 h4=>exact .rptr _ b off cc T fz vals h1.vis h2 h3 h4
theorem RV.vw_inv {es : List (List AV)} (h : RV FT c (.vw es) v) : ∃ ad cap,v=.slice ad es.length cap∧es.length ≤ cap∧(es=[] ∨ ∃ (b off : Nat) (cc : Array Value) (T : TypeId) (fz : Nat × Nat) (s : Nat) (vals : Nat→Nat→Value),
  ad=some ⟨b,off,none⟩∧Vis c b∧c.w.heap[b]? = some (.cells cc T fz)∧(∀ e ∈ es,e.length=s)∧(∀ i j x,hZ es i j=some x→cc[off + (i * s + j)]? = some (vals i j)∧gA (vals i j)=true) ∧
  ∀ i j x,hZ es i j=some x→RP c.w (Imm c) x (vals i j)):=by
 cases h with
 | pure _ _ hp=>cases hp
 | vnil a cap=>exact ⟨a,cap,rfl,Nat.zero_le _,.inl rfl⟩
 | vw _ b off cap cc T fz s vals h1 h2 h3 h4 h5 h6 h7=>exact ⟨_,cap,rfl,h5,.inr ⟨b,off,cc,T,fz,s,vals,rfl,h2,h3,h4,h6,h7⟩⟩
theorem RV.rmp_inv {ents : List (Value × AV)} (h : RV FT c (.rmp ents) v) : ∃ (b : Nat) (es : Array MapEntry) (clk : Nat) (vals : Nat→MapEntry),v=.map (some b)∧c.w.heap[b]? = some (.map es clk)∧es.size=ents.length ∧
  (∀ (i : Nat) (k : Value) (x : AV),ents[i]? = some (k,x)→es[i]? = some (vals i)∧(vals i).key=k)∧(∀ (i : Nat) (k : Value) (x : AV),ents[i]? = some (k,x)→RP c.w (Imm c) x (vals i).val):=by
 cases h with
 | pure _ _ hp=>cases hp with
  | rmp _ b es clk vals h1 h2 h3 h4 h5 h6=>exact ⟨b,es,clk,vals,rfl,h2,h3,h5,h6⟩
theorem RV.mp_inv {id : Nat} (h : RV FT c (.mp id) v) : ∃ b,v=.map (some b)∧aGz c.H id∧c.β id=some b:=by
 cases h with
 | pure _ _ hp=>cases hp
 | mp _ b h1 h2=>exact ⟨b,rfl,h1,h2⟩
theorem RV.it_inv {id : Nat} (h : RV FT c (.it id) v) : ∃ b,v=.pointer (some ⟨b,0,none⟩)∧aGz c.H id∧c.β id=some b:=by
 cases h with
 | pure _ _ hp=>cases hp
 | it _ b h1 h2=>exact ⟨b,rfl,h1,h2⟩
theorem RV.fn_inv {vi : Nat} {caps : List AV} (h : RV FT c (.fn vi caps) v) : ∃ (f : Nat) (cv : Array Value) (vals : Nat→Value),v=.func (.func f) #[] cv∧FT vi=some f∧cv.size=caps.length ∧
  (∀ (i : Nat) (x : AV),caps[i]? = some x→cv[i]? = some (vals i))∧(∀ (i : Nat) (x : AV),caps[i]? = some x→RV FT c x (vals i)):=by
 cases h with
 | pure _ _ hp=>cases hp
 | fn _ f _ cv vals h1 h2 h3 h4=>exact ⟨f,cv,vals,rfl,h1,h2,h3,h4⟩
theorem RV.agg_inv {cs : List AV} (h : RV FT c (.agg cs) v) : ∃ (cv : Array Value) (vals : Nat→Value),v=.agg cv∧cv.size=cs.length ∧
  (∀ (i : Nat) (x : AV),cs[i]? = some x→cv[i]? = some (vals i)∧gA (vals i)=true)∧(∀ (i : Nat) (x : AV),cs[i]? = some x→RV FT c x (vals i)):=by
 cases h with
 | pure _ _ hp=>cases hp
 | agg _ cv vals h1 h2 h3=>exact ⟨cv,vals,rfl,h1,h2,h3⟩
theorem RV.tup_inv {cs : List AV} (h : RV FT c (.tup cs) v) : ∃ (cv : Array Value) (vals : Nat→Value),v=.tuple cv∧cv.size=cs.length ∧
  (∀ (i : Nat) (x : AV),cs[i]? = some x→cv[i]? = some (vals i))∧(∀ (i : Nat) (x : AV),cs[i]? = some x→RV FT c x (vals i)):=by
 cases h with
 | pure _ _ hp=>cases hp
 | tup _ cv vals h1 h2 h3=>exact ⟨cv,vals,rfl,h1,h2,h3⟩
end inv
theorem aHo (v : Value) : gA v=v.oneCell':=by cases v <;> rfl
section
variable {P : Program} {T : List AFun} {c : Ctx} {fl : Nat} {o : Oper} {a : Act} {tm : List AV}
def OpOK [GlobT] (P : Program) (FT : Nat→Option Nat) (c : Ctx) (fl : Nat) (o : Oper) (a : Act) (v : AV) (H' : Heap) : Prop :=
 ∀ (K : Act→World→Prop) (Q : Exit→Act→World→Prop),
  (∀ cv c',c'.H=H'→Step fl c c'→Sim FT c'→RV FT c' v cv→K (a.put o.dst cv) c'.w)→o.wp P a c.w K Q
theorem mH [GlobT] {FT : Nat→Option Nat} {v : AV} {H' : Heap} {cv : Value} {w' : World} {β' : Nat→Option Nat}
  (hr : (execOp a.eval o).run P c.w=.ok (.value cv) w') (hst : Step fl c ⟨w',c.X,β',H'⟩) (hs : Sim FT ⟨w',c.X,β',H'⟩)
  (hv : RV FT ⟨w',c.X,β',H'⟩ v cv) : OpOK P FT c fl o a v H':=by
 intro K Q hK
 unfold Oper.wp
 rw [hr]
 exact hK cv ⟨w',c.X,β',H'⟩ rfl hst hs hv
theorem aW0 [GlobT] {FT : Nat→Option Nat} {H' : Heap} {w' : World} {β' : Nat→Option Nat}
  (hr : (execOp a.eval o).run P c.w=.ok .skip w') (hst : Step fl c ⟨w',c.X,β',H'⟩) (hs : Sim FT ⟨w',c.X,β',H'⟩) :
  OpOK P FT c fl o a (.lit gD) H':=by
 intro K Q hK
 unfold Oper.wp
 rw [hr]
 exact hK gD ⟨w',c.X,β',H'⟩ rfl hst hs (RV.lit _)
theorem gL [GlobT] {FT : Nat→Option Nat} {v : AV} {cv : Value} (hs : Sim FT c)
  (hr : (execOp a.eval o).run P c.w=.ok (.value cv) c.w) (hv : RV FT c v cv) : OpOK P FT c fl o a v c.H :=
 mH (β':=c.β) hr (Step.refl _ _) hs hv
theorem aKa [GlobT] {FT : Nat→Option Nat} (vs : List Value) (hsc : ∀ v ∈ vs,gA v=true) : RV FT c (.agg (vs.map .lit)) (.agg vs.toArray):=by
 refine .agg _ _ (fun i=>vs.getD i gD) (by simp) ?_ ?_
 ·intro i x hx
  simp only [List.getElem?_map,Option.map_eq_some_iff] at hx
  obtain ⟨v,hv,rfl⟩:=hx
  refine ⟨by simp [hv],?_⟩
  simp only [List.getD_eq_getElem?_getD,hv,Option.getD_some]
  exact hsc v (List.mem_of_getElem? hv)
 ·intro i x hx
  simp only [List.getElem?_map,Option.map_eq_some_iff] at hx
  obtain ⟨v,hv,rfl⟩:=hx
  simp only [List.getD_eq_getElem?_getD,hv,Option.getD_some]
  exact RV.lit v
theorem eE [GlobT] (hs : Sim (ftOf T) c) (htr : TR (ftOf T) c tm a.tmps) {x : AOpd} {y : Operand} (h : eC T x y=true) : RV (ftOf T) c (dU tm x) (a.eval y):=by
 unfold eC at h
 split at h
 ·rename_i t u
  have : t=u:=by simpa using h
  subst this
  simp only [dU,Act.eval]
  cases ht : tm[t]? with
  | none =>
   have hlt : a.tmps.size ≤ t:=by rw [← htr.1]; simpa using ht
   have : a.tmps[t]? = none:=Array.getElem?_eq_none hlt
   simp only [Array.getD_eq_getD_getElem?,this,Option.getD_none]
   exact RV.lit _
  | some x =>
   obtain ⟨v,hv,hr⟩:=htr.2 t x ht
   simpa [Array.getD_eq_getD_getElem?,hv] using hr
 ·rw [aVs h]; exact RV.lit _
 ·rename_i vs us
  have e:=aM7 h
  simp only [dU,Act.eval]
  have : us=vs.toArray:=by rw [e]
  rw [this]
  exact aKa vs (aCi h)
 ·rename_i vi f
  simp only [dU,Act.eval]
  refine .fn vi f [] #[] (fun _=>gD) (by simpa using h) rfl ?_ ?_ <;> intro i x hx <;> simp at hx
 ·rename_i g g'
  have : g=g':=by simpa using h
  subst this
  simp only [dU,Act.eval]
  split
  ·rename_i cs hcs
   exact hs.gl.rv hcs
  ·exact RV.undef _
 ·cases h
theorem aWt [GlobT] (hs : Sim (ftOf T) c) (htr : TR (ftOf T) c tm a.tmps) {x : AOpd} {y : Operand} (ho : o.op=.move y ∨ o.op=.assign y) (h : eC T x y=true) :
  OpOK P (ftOf T) c fl o a (dU tm x) c.H:=by
 refine gL (cv:=a.eval y) hs ?_ (eE hs htr h)
 rcases ho with ho | ho <;> simp [execOp,ho]
theorem bD0 [GlobT] (hs : Sim (ftOf T) c) (htr : TR (ftOf T) c tm a.tmps) {x y z : AOpd} {x' y' z' : Operand} {t : Bool} (ho : o.op=.pick x' y' z')
  (h1 : eC T x x'=true) (h2 : eC T y y'=true) (h3 : eC T z z'=true) (ht : dU tm x=.lit (.bool t)) :
  OpOK P (ftOf T) c fl o a (if t then dU tm y else dU tm z) c.H:=by
 have hx:=eE hs htr h1
 rw [ht] at hx
 have ex:=hx.lit_inv
 refine gL (cv:=if t then a.eval y' else a.eval z') hs ?_ ?_
 ·simp [execOp,ho,ex,asBool]
 ·cases t
  ·exact eE hs htr h3
  ·exact eE hs htr h2
theorem qN [GlobT] {t : TypeId} {z : List Value} (h : yY P t z=true) : ∃ i v,P.info? t=some i∧i.zero=some v∧v.cells=z.toArray∧∀ u ∈ z,gA u=true:=by
 unfold yY at h
 split at h
 ·rename_i i hi
  split at h
  ·rename_i v hv
   refine ⟨i,v,hi,hv,?_,aCi h⟩
   have:=aM7 h
   rw [this]
  ·cases h
 ·cases h
theorem aQh {cs : List AV} {i j : Nat} {x : AV} (h : hZ [cs] i j=some x) : i=0∧cs[j]? = some x:=by
 unfold hZ at h
 cases i with
 | zero=>simpa using h
 | succ i=>simp at h
theorem aUs {FT : Nat→Option Nat} {w' : World} {X : Nat→Prop} {s : Nat} {cs : List AV} {L : List AObj} (β : Nat→Option Nat) (H : Heap) (b : Nat)
  (hb : β H.length=some b) : RV FT ⟨w',X,β,H++.blk s [cs] :: L⟩ (.ptr H.length 1 0 0) (.pointer (some ⟨b,0,none⟩)) :=
 .ptr H.length 1 0 0 _ s 1 (by simp [shp]) (Nat.le_refl _) fun _=>⟨b,hb,by simp⟩
theorem aKp [GlobT] (hs : Sim (ftOf T) c) (hfl : fl ≤ c.H.length) {cs : List AV} {cv : Array Value} {t : TypeId}
  (hr : (execOp a.eval o).run P c.w=.ok (.value (.pointer (some ⟨c.w.heap.size,0,none⟩))) (c.w.alloc (.cells cv t (0,0))))
  (hsz : cv.size=cs.length) (hcs : ∀ (j : Nat) (x : AV),cs[j]? = some x→∃ v,cv[j]? = some v∧gA v=true∧RV (ftOf T) c x v) :
  OpOK P (ftOf T) c fl o a (.ptr c.H.length 1 0 0) (c.H++[.blk cs.length [cs]]):=by
 refine mH (β':=upd c.β c.H.length c.w.heap.size) hr (aGl (ob:=.cells cv t (0,0)) hfl rfl rfl rfl rfl (fun id b hb=>hs.lt hb))
  (aNd (ob:=.cells cv t (0,0)) hs rfl rfl rfl rfl ?_ ?_ ?_ (fun _ h=>by cases h)) (aUs (L:=[]) _ _ _ (mG _ _ _))
 ·intro s es he e hm
  cases he
  simp only [List.mem_singleton] at hm
  rw [hm]
 ·intro s es he
  cases he
  refine ⟨cv,t,rfl,by simp [hsz],?_⟩
  intro i j x hx
  obtain ⟨rfl,hj⟩:=aQh hx
  obtain ⟨v,h1,h2,h3⟩:=hcs j x hj
  exact ⟨v,by simpa using h1,h2,h3⟩
 ·intro ents he; cases he
theorem bAk [GlobT] (hs : Sim (ftOf T) c) (hfl : fl ≤ c.H.length) {z : List Value} {t : TypeId} (ho : o.op=.alloc t) (h : yY P t z=true) :
  OpOK P (ftOf T) c fl o a (.ptr c.H.length 1 0 0) (c.H++[.blk z.length [z.map .lit]]):=by
 obtain ⟨i,v,hi,hv,hc,hsc⟩:=qN h
 have:=aKp (P:=P) (o:=o) (a:=a) (cs:=z.map AV.lit) (cv:=z.toArray) (t:=t) hs hfl ?_ (by simp) ?_
 ·simpa using this
 ·simp [execOp,ho,Instr.alloc,zeroValue,typeInfo,hi,hv,newVar,newRow,hc]
 ·intro j x hx
  simp only [List.getElem?_map,Option.map_eq_some_iff] at hx
  obtain ⟨u,hu,rfl⟩:=hx
  exact ⟨u,by simpa using hu,hsc u (List.mem_of_getElem? hu),RV.lit u⟩
theorem aE1 [GlobT] {FT : Nat→Option Nat} {x : AV} {v : Value} {cs : List AV} (hr : RV FT c x v) (h : cellsOf x=some cs) :
  v.cells.size=cs.length∧∀ (j : Nat) (y : AV),cs[j]? = some y→∃ u,v.cells[j]? = some u∧gA u=true∧RV FT c y u:=by
 have one : ∀ {x : AV} {v : Value},RV FT c x v→gA v=true→cs=[x] →
   v.cells.size=cs.length∧∀ (j : Nat) (y : AV),cs[j]? = some y→∃ u,v.cells[j]? = some u∧gA u=true∧RV FT c y u:=by
  intro x v hr hsc e
  have hv : v.cells=#[v]:=by cases v <;> first | rfl | (simp [gA] at hsc)
  subst e
  rw [hv]
  refine ⟨rfl,fun j y hy=>?_⟩
  cases j with
  | zero=>simp at hy; subst hy; exact ⟨v,by simp,hsc,hr⟩
  | succ j=>simp at hy
 cases hr with
 | pure _ _ hp =>
  cases hp with
  | undef=>simp [cellsOf] at h
  | lit v =>
   simp only [cellsOf] at h
   split at h
   ·rename_i hsc
    cases h
    exact one (RV.lit v) hsc rfl
   ·cases h
  | nil f a' cap hf =>
   simp only [cellsOf,Option.some.injEq] at h
   exact one (.pure _ _ (.nil f a' cap hf)) rfl h.symm
  | sl f es b off cap cc T fz s vals h1 h2 h3 h4 h5 h6 h7 h8 =>
   simp only [cellsOf,Option.some.injEq] at h
   exact one (.pure _ _ (.sl f es b off cap cc T fz s vals h1 h2 h3 h4 h5 h6 h7 h8)) rfl h.symm
  | sptr cs' b off cc T fz vals h1 h2 h3 h4 =>
   simp only [cellsOf,Option.some.injEq] at h
   exact one (.pure _ _ (.sptr cs' b off cc T fz vals h1 h2 h3 h4)) rfl h.symm
  | rmp ents b es clk vals h1 h2 h3 h4 h5 h6 =>
   simp only [cellsOf,Option.some.injEq] at h
   exact one (.pure _ _ (.rmp ents b es clk vals h1 h2 h3 h4 h5 h6)) rfl h.symm
 | ms id tot off len a' cap s n h1 h2 h3 h4 =>
  simp only [cellsOf,Option.some.injEq] at h
  exact one (.ms id tot off len a' cap s n h1 h2 h3 h4) rfl h.symm
 | ptr id tot idx off a' s n h1 h2 h3 =>
  simp only [cellsOf,Option.some.injEq] at h
  exact one (.ptr id tot idx off a' s n h1 h2 h3) rfl h.symm
 | rptr cs' b off cc T fz vals h1 h2 h3 h4 =>
  simp only [cellsOf,Option.some.injEq] at h
  exact one (.rptr cs' b off cc T fz vals h1 h2 h3 h4) rfl h.symm
 | vnil a' cap =>
  simp only [cellsOf,Option.some.injEq] at h
  exact one (.vnil a' cap) rfl h.symm
 | vw es b off cap cc T fz s vals h1 h2 h3 h4 h5 h6 h7 =>
  simp only [cellsOf,Option.some.injEq] at h
  exact one (.vw es b off cap cc T fz s vals h1 h2 h3 h4 h5 h6 h7) rfl h.symm
 | mp id b h1 h2 =>
  simp only [cellsOf,Option.some.injEq] at h
  exact one (.mp id b h1 h2) rfl h.symm
 | it id b h1 h2 =>
  simp only [cellsOf,Option.some.injEq] at h
  exact one (.it id b h1 h2) rfl h.symm
 | fn vi f caps cv vals h1 h2 h3 h4 =>
  simp only [cellsOf,Option.some.injEq] at h
  exact one (.fn vi f caps cv vals h1 h2 h3 h4) rfl h.symm
 | agg cs' cv vals h1 h2 h3 =>
  simp only [cellsOf,Option.some.injEq] at h
  subst h
  exact ⟨h1,fun j y hy=>⟨vals j,(h2 j y hy).1,(h2 j y hy).2,h3 j y hy⟩⟩
 | tup=>simp [cellsOf] at h
theorem bFp [GlobT] (hs : Sim (ftOf T) c) (htr : TR (ftOf T) c tm a.tmps) (hfl : fl ≤ c.H.length) {x : AOpd} {y : Operand} {t : TypeId} {cs : List AV} (ho : o.op=.box t y)
  (h : eC T x y=true) (hc : cellsOf (dU tm x)=some cs) :
  OpOK P (ftOf T) c fl o a (.ptr c.H.length 1 0 0) (c.H++[.blk cs.length [cs]]):=by
 obtain ⟨h1,h2⟩:=aE1 (eE hs htr h) hc
 refine aKp (cv:=(a.eval y).cells) (t:=t) hs hfl ?_ h1 h2
 simp [execOp,ho,Instr.box,newVar,newRow]
theorem aTa [GlobT] (hs : Sim (ftOf T) c) (hfl : fl ≤ c.H.length) {s : Nat} (ho : o.op=.move (.const nilS) ∨ o.op=.assign (.const nilS)) :
  OpOK P (ftOf T) c fl o a (.ms c.H.length 0 0 0) (c.H++[.blk s []]):=by
 refine mH (cv:=nilS) (β':=c.β) ?_ (aEo hfl) (aJ7 hs) ?_
 ·rcases ho with ho | ho <;> simp [execOp,ho,Act.eval]
 ·refine .ms _ 0 0 0 none 0 s 0 (by simp [shp]) (Nat.le_refl _) (Nat.le_refl _) fun _=>⟨Nat.le_refl _,.inl ⟨?_,rfl,rfl,rfl⟩⟩
  cases hb : c.β c.H.length with
  | none=>rfl
  | some b=>have:=hs.dom _ b hb; omega
theorem pO (b k j : Nat) : (⟨b,k,none⟩ : Addr).add j=⟨b,k + j,none⟩:=by unfold Addr.add; split <;> simp_all
def aOn (FT : Nat→Option Nat) (c : Ctx) (ad : Addr) (cs : List AV) (vs : List Value) : Prop :=
 vs.length=cs.length∧(∀ (j : Nat) (u : Value),vs[j]? = some u→c.w.cell? (ad.add j)=some u) ∧
 ∀ (j : Nat) (x : AV),cs[j]? = some x→∃ u,vs[j]? = some u∧gA u=true∧RV FT c x u
theorem qP {H : Heap} {id s : Nat} {es : List (List AV)} (h : H[id]? = some (.blk s es)) : shp H id=some (s,es.length):=by simp [shp,h]
theorem aGf [GlobT] {FT : Nat→Option Nat} {b k n : Nat} {cc : Array Value} {T : TypeId} {fz : Nat × Nat} {cs : List AV} (hb : c.w.heap[b]? = some (.cells cc T fz)) (hn : cs.length=n)
  (h : ∀ (j : Nat) (x : AV),cs[j]? = some x→∃ u,cc[k + j]? = some u∧gA u=true∧RV FT c x u) :
  aOn FT c ⟨b,k,none⟩ cs ((cc.toList.drop k).take n):=by
 refine ⟨?_,?_,?_⟩
 ·simp only [List.length_take,List.length_drop,Array.length_toList,hn]
  cases n with
  | zero=>simp
  | succ m =>
   obtain ⟨u,hu,_⟩:=h m (cs[m]'(by omega)) (by simp)
   have : k + m < cc.size:=(Array.getElem?_eq_some_iff.1 hu).1
   omega
 ·intro j u hu
  rw [pO,cell_of_row c.w b (k + j) cc T fz hb]
  rw [List.getElem?_take] at hu
  split at hu
  ·simpa using hu
  ·cases hu
 ·intro j x hx
  obtain ⟨u,h1,h2,h3⟩:=h j x hx
  have hj : j < n:=by rw [← hn]; exact (List.getElem?_eq_some_iff.1 hx).1
  refine ⟨u,?_,h2,h3⟩
  rw [List.getElem?_take,if_pos hj]
  simpa using h1
theorem aH4 [GlobT] {FT : Nat→Option Nat} (hs : Sim FT c) {x : AV} {v : Value} {n : Nat} {cs : List AV} (hr : RV FT c x v) (h : uT c.H x n=some cs) :
  ∃ (ad : Addr) (vs : List Value),v=.pointer (some ad)∧cs.length=n∧aOn FT c ad cs vs:=by
 unfold uT at h
 split at h
 ·rename_i id tot idx off
  split at h
  ·rename_i s es ho
   split at h
   ·rename_i ht
    split at h
    ·rename_i e he
     split at h
     ·rename_i hle
      cases h
      cases hr with
      | pure _ _ hp=>cases hp
      | ptr _ _ _ _ ad s' n' h1 h2 h3 =>
       rw [qP ho] at h1
       cases h1
       obtain ⟨b,hb,rfl⟩:=h3 ht.symm
       obtain ⟨cc,T,g1,g2,g3⟩:=hs.blk id s es b ho hb
       have hel:=hs.lens id s es ho e (List.mem_of_getElem? he)
       have hcl : ((e.drop off).take n).length=n:=by simp; omega
       refine ⟨_,_,rfl,hcl,aGf (n:=n) g1 hcl ?_⟩
       intro j x hx
       rw [List.getElem?_take] at hx
       split at hx
       ·rw [List.getElem?_drop] at hx
        have:=g3 idx (off + j) x (by simp [hZ,he,hx])
        simpa [Nat.add_assoc] using this
       ·cases hx
     ·cases h
    ·cases h
   ·cases h
  ·cases h
 ·rename_i cs0
  split at h
  ·rename_i hle
   cases h
   obtain ⟨b,off,cc,T,fz,vals,rfl,h1,h2,h3,h4⟩:=hr.rptr_inv
   ·have hcl : (cs0.take n).length=n:=by simp; omega
    refine ⟨_,_,rfl,hcl,aGf (n:=n) h2 hcl ?_⟩
    intro j x hx
    rw [List.getElem?_take] at hx
    split at hx
    ·exact ⟨vals j,(h3 j x hx).1,(h3 j x hx).2,.pure _ _ (h4 j x hx)⟩
    ·cases hx
  ·cases h
 ·rename_i cs0
  split at h
  ·rename_i hle
   cases h
   obtain ⟨b,off,cc,T,fz,vals,rfl,h1,h2,h3,h4⟩:=hr.sptr_inv.rptr_inv
   ·have hcl : (cs0.take n).length=n:=by simp; omega
    refine ⟨_,_,rfl,hcl,aGf (n:=n) h2 hcl ?_⟩
    intro j x hx
    rw [List.getElem?_take] at hx
    split at hx
    ·exact ⟨vals j,(h3 j x hx).1,(h3 j x hx).2,.pure _ _ (h4 j x hx)⟩
    ·cases hx
  ·cases h
 ·cases h
theorem aDv {FT : Nat→Option Nat} {ad : Addr} {cs : List AV} {vs : List Value} (h : aOn FT c ad cs vs) : RV FT c (.agg cs) (.agg vs.toArray):=by
 refine .agg cs vs.toArray (fun i=>vs.getD i gD) (by simp [h.1]) ?_ ?_
 ·intro i x hx
  obtain ⟨u,h1,h2,_⟩:=h.2.2 i x hx
  simp [List.getD_eq_getElem?_getD,h1,h2]
 ·intro i x hx
  obtain ⟨u,h1,_,h3⟩:=h.2.2 i x hx
  simpa [List.getD_eq_getElem?_getD,h1] using h3
theorem kV {t : TypeId} {n : Nat} (h : kL P t n=true) : ∃ i,P.info? t=some i∧i.size=n:=by
 unfold kL at h
 split at h
 ·rename_i i hi; exact ⟨i,hi,by simpa using h⟩
 ·cases h
theorem aHe {t : TypeId} {b : Bool} (h : aHf P t b=true) (w : World) : (isAgg t).run P w=.ok b w:=by
 unfold aHf at h
 unfold isAgg
 split at h
 ·rename_i hu; simp [run_underlying hu,h]
 ·rename_i hu; simp [run_underlying hu,h]
 ·rename_i d h1 h2 hu
  rw [Sem.run_bind,run_underlying hu]
  simp only [Result.andThen_ok]
  have hb : b=false:=by simpa using h
  subst hb
  cases d with
  | struct fs=>exact (h1 fs rfl).elim
  | array n e=>exact (h2 n e rfl).elim
  | _=>rfl
 ·cases h
theorem aBa [GlobT] {FT : Nat→Option Nat} {ad : Addr} {cs : List AV} {vs : List Value} {t : TypeId} {n : Nat} {agg : Bool} (hc : aOn FT c ad cs vs) (hn : cs.length=n)
  (h1 : aHf P t agg=true) (h2 : kL P t n=true) :
  agg=true→(loadVar t ad).run P c.w=.ok (.agg vs.toArray) c.w:=by
 intro e
 subst e
 obtain ⟨i,hi,hsz⟩:=kV h2
 have hl:=run_loadCells_list (P:=P) c.w ad vs hc.2.1
 have e : vs.length=n:=hc.1.trans hn
 simp [loadVar,aHe h1,sizeOf,typeInfo,hi,hsz,← e,hl]
theorem aDw [GlobT] {ad : Addr} {u : Value} {t : TypeId} (hc : c.w.cell? ad=some u) (h1 : aHf P t false=true) :
  (loadVar t ad).run P c.w=.ok u c.w:=by
 simp [loadVar,aHe h1,hc]
theorem aRj [GlobT] (hs : Sim (ftOf T) c) (htr : TR (ftOf T) c tm a.tmps) {x : AOpd} {y : Operand} {t : TypeId} {n : Nat} {agg : Bool} {cs : List AV} {v : AV} (ho : o.op=.load t y)
  (h : eC T x y=true) (h1 : aHf P t agg=true) (h2 : kL P t n=true) (hl : uT c.H (dU tm x) n=some cs)
  (hv : if agg then v=.agg cs else cs=[v]) : OpOK P (ftOf T) c fl o a v c.H:=by
 obtain ⟨ad,vs,hp,hn,hc⟩:=aH4 hs (eE hs htr h) hl
 cases agg with
 | true =>
  simp only [if_true] at hv
  subst hv
  refine gL (cv:=.agg vs.toArray) hs ?_ (aDv hc)
  simp [execOp,ho,Instr.loadAt,Instr.sureAddr,hp,aBa hc hn h1 h2 rfl]
 | false =>
  simp only [Bool.false_eq_true,if_false] at hv
  subst hv
  obtain ⟨u,g1,g2,g3⟩:=hc.2.2 0 v (by simp)
  have hcell:=hc.2.1 0 u g1
  have e0 : ad.add 0=ad:=by simp [Addr.add]
  rw [e0] at hcell
  refine gL (cv:=u) hs ?_ g3
  simp [execOp,ho,Instr.loadAt,Instr.sureAddr,hp,aDw hcell h1]
theorem kI {α : Type} {l vs : List α} {k : Nat} (h : k + vs.length ≤ l.length) : (jM l k vs).length=l.length:=by
 simp only [jM,List.length_append,List.length_take,List.length_drop]; omega
theorem aEp {α : Type} {l vs : List α} {k : Nat} (h : k + vs.length ≤ l.length) (p : Nat) :
  (jM l k vs)[p]? = if p < k then l[p]? else if p < k + vs.length then vs[p - k]? else l[p]?:=by
 unfold jM
 rw [List.getElem?_append]
 simp only [List.length_take]
 have hk : min k l.length=k:=by omega
 rw [hk]
 split
 ·rename_i hp
  rw [List.getElem?_take,if_pos hp]
 ·rename_i hp
  rw [List.getElem?_append]
  split
  ·rename_i hq
   rw [if_pos (by omega)]
  ·rename_i hq
   rw [if_neg (by omega),List.getElem?_drop]
   congr 1
   omega
theorem aS4 {s i n j : Nat} (hi : i < n) (hj : j < s) : i * s + j < n * s:=by
 have : (i + 1) * s ≤ n * s:=Nat.mul_le_mul_right s hi
 rw [Nat.add_mul] at this; omega
theorem jJ {es : List (List AV)} {i j : Nat} {x : AV} (h : hZ es i j=some x) : ∃ e,es[i]? = some e∧e[j]? = some x:=by
 unfold hZ at h
 cases he : es[i]? with
 | none=>simp [he] at h
 | some e=>exact ⟨e,rfl,by simpa [he] using h⟩
theorem bEw [GlobT] {FT : Nat→Option Nat} {s idx off : Nat} {es : List (List AV)} {e cs : List AV} {vs : List Value} {cc : Array Value}
  (hl : ∀ e ∈ es,e.length=s) (he : es[idx]? = some e) (hfit : off + cs.length ≤ e.length) (hsz : es.length * s ≤ cc.size) (hvs : vs.length=cs.length)
  (hold : ∀ i j x,hZ es i j=some x→∃ v,cc[i * s + j]? = some v∧gA v=true∧RV FT c x v)
  (hnew : ∀ (j : Nat) (x : AV),cs[j]? = some x→∃ u,vs[j]? = some u∧gA u=true∧RV FT c x u) :
  (∀ e' ∈ es.set idx (jM e off cs),e'.length=s) ∧
  ∀ i j x,hZ (es.set idx (jM e off cs)) i j=some x →
   ∃ v,((jM cc.toList (idx * s + off) vs).toArray)[i * s + j]? = some v∧gA v=true∧RV FT c x v:=by
 have hes : e.length=s:=hl e (List.mem_of_getElem? he)
 have hidx : idx < es.length:=(List.getElem?_eq_some_iff.1 he).1
 have hlt : (idx + 1) * s ≤ es.length * s:=Nat.mul_le_mul_right s hidx
 rw [Nat.add_mul] at hlt
 have hfit2 : idx * s + off + vs.length ≤ cc.toList.length:=by simp only [Array.length_toList]; omega
 refine ⟨?_,?_⟩
 ·intro e' he'
  rcases List.mem_or_eq_of_mem_set he' with h | h
  ·exact hl e' h
  ·rw [h,kI hfit,hes]
 ·intro i j x hx
  simp only [List.getElem?_toArray,aEp hfit2]
  obtain ⟨e1,h1,h2⟩:=jJ hx
  by_cases ei : i=idx
  ·subst ei
   rw [getElem?_set_eq' he] at h1
   cases h1
   rw [aEp hfit] at h2
   split at h2
   ·rename_i hj
    rw [if_pos (by omega)]
    have:=hold i j x (by simp [hZ,he,h2])
    simpa using this
   ·rename_i hj
    split at h2
    ·rename_i hj2
     rw [if_neg (by omega),if_pos (by omega)]
     obtain ⟨u,g1,g2,g3⟩:=hnew _ x h2
     refine ⟨u,?_,g2,g3⟩
     rw [← g1]
     congr 1
     omega
    ·rename_i hj2
     rw [if_neg (by omega),if_neg (by omega)]
     have:=hold i j x (by simp [hZ,he,h2])
     simpa using this
  ·rw [getElem?_set_ne' ei] at h1
   have hj : j < s:=by
    rw [← hl e1 (List.mem_of_getElem? h1)]; exact (List.getElem?_eq_some_iff.1 h2).1
   have hout : i * s + j < idx * s + off ∨ idx * s + off + vs.length ≤ i * s + j:=by
    rcases Nat.lt_or_gt_of_ne ei with h | h
    ·have : (i + 1) * s ≤ idx * s:=Nat.mul_le_mul_right s h
     rw [Nat.add_mul] at this; omega
    ·have : (idx + 1) * s ≤ i * s:=Nat.mul_le_mul_right s h
     rw [Nat.add_mul] at this; omega
   have key:=hold i j x (by simp [hZ,h1,h2])
   rcases hout with h | h
   ·rw [if_pos h]; simpa using key
   ·rw [if_neg (by omega),if_neg (by omega)]; simpa using key
theorem vE (w : World) (g k : Nat) (cc : Array Value) (vs : List Value) :
  w.setRow g (cc.toList.take (k + 0)++vs++cc.toList.drop (k + 0 + vs.length)).toArray=w.setRow g (jM cc.toList k vs).toArray:=by
 simp [jM]
theorem aZ8 [GlobT] (hs : Sim (ftOf T) c) (htr : TR (ftOf T) c tm a.tmps) {x v : AOpd} {y u : Operand} {t : TypeId} {n : Nat} {cs : List AV} {H' : Heap} (ho : o.op=.store t y u)
  (h1 : eC T x y=true) (h2 : eC T v u=true) (h3 : kL P t n=true) (hc : cellsOf (dU tm v)=some cs) (hn : cs.length=n)
  (hst : aDs fl c.H (dU tm x) cs=some H') : OpOK P (ftOf T) c fl o a (.lit gD) H':=by
 obtain ⟨i,hi,hsz⟩:=kV h3
 obtain ⟨hvs,hvr⟩:=aE1 (eE hs htr h2) hc
 have hx:=eE hs htr h1
 unfold aDs at hst
 split at hst
 ·rename_i id tot idx off hxe
  rw [hxe] at hx
  split at hst
  ·rename_i hfl
   split at hst
   ·rename_i s es hob
    split at hst
    ·rename_i htot
     split at hst
     ·rename_i e he
      split at hst
      ·rename_i hfit
       cases hst
       ·obtain ⟨ad,s',n',hxa,g1,g2,g3⟩:=hx.ptr_inv
        rw [qP hob] at g1
        cases g1
        obtain ⟨b,hb,rfl⟩:=g3 htot.symm
        obtain ⟨cc,Ty,k1,k2,k3⟩:=hs.blk id s es b hob hb
        have hlens:=hs.lens id s es hob
        have hes : e.length=s:=hlens e (List.mem_of_getElem? he)
        have hidx : idx < es.length:=(List.getElem?_eq_some_iff.1 he).1
        have hlt : (idx + 1) * s ≤ es.length * s:=Nat.mul_le_mul_right s hidx
        rw [Nat.add_mul] at hlt
        have hvl : (a.eval u).cells.toList.length=cs.length:=by simpa using hvs
        obtain ⟨p1,p2⟩:=bEw (vs:=(a.eval u).cells.toList) (cc:=cc) hlens he hfit k2 hvl k3 (fun j x hx=>by simpa using hvr j x hx)
        have hfit2 : idx * s + off + (a.eval u).cells.toList.length ≤ cc.toList.length:=by simp only [Array.length_toList] at hvl ⊢; omega
        have hone : ∀ v ∈ (a.eval u).cells.toList,v.oneCell'=true:=by
         intro v hv
         obtain ⟨j,hj⟩:=List.mem_iff_getElem?.1 hv
         have hjl : j < cs.length:=by rw [← hvl]; exact (List.getElem?_eq_some_iff.1 hj).1
         obtain ⟨u',w1,w2,_⟩:=hvr j cs[j] (by simp)
         have : u'=v:=by
          have hj' : (a.eval u).cells[j]? = some v:=by simpa using hj
          rw [w1] at hj'; exact Option.some.inj hj'
         rw [← aHo,← this]; exact w2
        have hrun:=run_storeCells_at P b (idx * s + off) Ty (a.eval u).cells.toList 0 cc c.w k1 (by simpa using hfit2) hone
        rw [vE] at hrun
        have hsplen:=kI hfit2
        refine aW0 (w':=c.w.setRow b (jM cc.toList (idx * s + off) (a.eval u).cells.toList).toArray) (β':=c.β) ?_
         (aAv (cs':=(jM cc.toList (idx * s + off) (a.eval u).cells.toList).toArray) hs hfl hob hb k1 (by simp) ?_ (setRow_heap c.w b cc _ Ty _ k1) (fun k hk=>setRow_other c.w b k _ hk) (by simp) rfl rfl rfl)
         (aFt (cs':=(jM cc.toList (idx * s + off) (a.eval u).cells.toList).toArray) hs hob hb k1 (by simp) ?_ (setRow_heap c.w b cc _ Ty _ k1) (fun k hk=>setRow_other c.w b k _ hk) (by simp) rfl rfl rfl p1 ?_ p2)
        ·have hne : ¬ (a.eval u).cells.size ≠ i.size:=by rw [hvs,hn,hsz]; simp
         simp [execOp,ho,Instr.storeAt,Instr.sureAddr,storeVar,sizeOf,typeInfo,hxa,hi,hvs,hn,hsz,hrun]
        ·simpa using hsplen
        ·simpa using hsplen
        ·simp only [List.length_set,List.size_toArray,hsplen,Array.length_toList]; exact k2
      ·cases hst
     ·cases hst
    ·cases hst
   ·cases hst
  ·cases hst
 ·cases hst
end
end Go.Proofs.YtapabkfjeiknbaaGreat.Av
