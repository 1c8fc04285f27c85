/- Parts of the proof. -/
import Derived.Test.YtcjagpfbhnmggaaGreatDoorBd44
namespace Go.Proofs.YtcjagpfbhnmggaaGreatDoor
section
open Sym Go.RowKit
noncomputable section
set_option maxRecDepth 100000
set_option maxHeartbeats 4000000
noncomputable def Q16:Array Oper:=ZE (bu Tryz.f3 16)
noncomputable def nf:bA:=[(8,[8,6,1,5,10,43],40),(100013,[8,6,1,5,10,43,11,12],40),(100016,[8,6,1,5,10,43,11,12,15,14],40),(100018,[8,6,1,5,10,43,11,14,12],40)]
noncomputable def oZ:bA:=[(8,[8,6,1,5,10,43],40),(100016,[8,6,1,5,10,43,11,12,15,14],40),(100018,[8,6,1,5,10,43,11,14,12],40)]
noncomputable def qS:bA:=[(8,[8,6,1,5,10,43],40),(100013,[8,6,1,5,10,43,11,12],40),(100018,[8,6,1,5,10,43,11,14,12],40)]
noncomputable def pa:bA:=[(8,[8,6,1,5,10,43],40),(100013,[8,6,1,5,10,43,11,12],40),(100016,[8,6,1,5,10,43,11,12,15,14],40)]
noncomputable def qT:bA:=[(8,[8,6,1,5,10,43],40),(100013,[8,6,1,5,10,43,11,12],40),(100016,[8,6,1,5,10,43,11,12,15,14],40)]
theorem ac4 (l:List Int) (aA:Bool) (wy:Int):aI (As dK) nf Tryz.f3.results.toList 1 400 [.code (aj Tryz.f3)] ⟨ay Tryz.f3 [.c (.ai 0 0 l.length aA),.c (.int .i64 wy)],([.aB 0 l]:Heap cod)⟩=
 (let q0:av cod:=.aF [.int .i64 2,.int .i64 3,.int .i64 4,.int .i64 1,.int .i64 160,.int .i64 128,.nil,.int .i64 0,.int .i64 (-1)] 62;
 .aa ((0=0∧List.length l=List.length l)) (.aa (F.DW 2 3 4 1 160 128) (.aa (F.DW 2 3 4 1 160 128) (.ret (.cut (cutAt Tryz.f3 8) ⟨bc 68 [(1,.c (.int .i64 wy)),(3,.c (.own 1 (F.jG l).length)),(0,.c (.ptr 2 0 0)),(1,.c (.ptr 3 0 0)),(1,.c (.ai 4 0 2 true)),(32,.c (.int .i64 0))],[.aB 0 l,.own 2 (F.jG l) 58,q0,q0,.arr 2 F.sites 64]⟩))))):=by kernel_rfl
noncomputable def zy (l:List Int) (_:Bool) (wy:Int) (x:List F.bJ) (n:Nat) (nx la k:Int):St cod:=⟨bc 68 [(1,.c (.int .i64 wy)),(3,.c (.own 1 (F.jG l).length)),(0,.c (.ptr 2 0 0)),(1,.c (.ptr 3 0 0)),(1,.c (.ai 4 0 2 true)),(32,.c (.int .i64 k))],([.aB 0 l,.own 2 (F.jG l) 58,.aF [.int .i64 2,.int .i64 3,.int .i64 4,.int .i64 1,.int .i64 160,.int .i64 128,.ai 5 0 n false,.int .i64 nx,.int .i64 la] 62,.aF [.int .i64 2,.int .i64 3,.int .i64 4,.int .i64 1,.int .i64 160,.int .i64 128,.ai 6 0 n false,.int .i64 nx,.int .i64 la] 62,.arr 2 F.sites 64,.own 6 x 81,.own 6 x 81]:Heap cod)⟩
theorem UZ (l:List Int) (aA:Bool) (wy:Int) (x:List F.bJ) (n:Nat) (nx la k:Int):aI (As dK) nf Tryz.f3.results.toList 1 400 (cutAt Tryz.f3 8) (zy l aA wy x n nx la k)=
 (let q0:=List.map F.bJ.f (List.take n x);
 let q1:=IntKind.wrap .i64 (4*k);
 let q2:=F.seen F.sites (F.jG l) q1;
 cond (decide (k < 4)) (.aa (((0=0∧2=2)∧((0=0∧List.length (F.jG l)=List.length (F.jG l))∧F.iJ F.sites (F.jG l) q1))) (.ret (.cut (bu Tryz.f3 13) ⟨bc 68 [(1,.c (.int .i64 wy)),(3,.c (.own 1 (F.jG l).length)),(0,.c (.ptr 2 0 0)),(1,.c (.ptr 3 0 0)),(1,.c (.ai 4 0 2 true)),(0,.c (.int .i64 k)),(0,.c (.own 7 q2.length)),(30,.c (.int .i64 k))],[.aB 0 l,.own 2 (F.jG l) 58,.aF [.int .i64 2,.int .i64 3,.int .i64 4,.int .i64 1,.int .i64 160,.int .i64 128,.ai 5 0 (n) false,.int .i64 nx,.int .i64 la] 62,.aF [.int .i64 2,.int .i64 3,.int .i64 4,.int .i64 1,.int .i64 160,.int .i64 128,.ai 6 0 (n) false,.int .i64 nx,.int .i64 la] 62,.arr 2 F.sites 64,.own 6 x 81,.own 6 x 81,.own 2 q2 42]⟩))) (.aa ((n≤List.length x∧n≤100)) (.aa ((n≤List.length x∧n≤100)) (.aa (((0=0∧n=List.length q0)∧((0=0∧n=List.length q0)∧F.ab1 q0 q0))) (.ret (.fin (.c (.bool true)) [])))))):=by kernel_rfl
noncomputable def vh (l:List Int) (_:Bool) (wy:Int) (x:List F.bJ) (n:Nat) (nx la k:Int) (X:List (Int×Int×Int×Int×Int×Int)):St cod:=⟨bc 68 [(1,.c (.int .i64 wy)),(3,.c (.own 1 (F.jG l).length)),(0,.c (.ptr 2 0 0)),(1,.c (.ptr 3 0 0)),(1,.c (.ai 4 0 2 true)),(0,.c (.int .i64 k)),(0,.c (.ai 7 0 X.length false)),(30,.c (.int .i64 k))],([.aB 0 l,.own 2 (F.jG l) 58,.aF [.int .i64 2,.int .i64 3,.int .i64 4,.int .i64 1,.int .i64 160,.int .i64 128,.ai 5 0 n false,.int .i64 nx,.int .i64 la] 62,.aF [.int .i64 2,.int .i64 3,.int .i64 4,.int .i64 1,.int .i64 160,.int .i64 128,.ai 6 0 n false,.int .i64 nx,.int .i64 la] 62,.arr 2 F.sites 64,.own 6 x 81,.own 6 x 81,.aB 2 X]:Heap cod)⟩
theorem PL (l:List Int) (aA:Bool) (wy:Int) (x:List F.bJ) (n:Nat) (nx la k:Int) (X:List (Int×Int×Int×Int×Int×Int)):aI (As dK) oZ Tryz.f3.results.toList 1 400 (bu Tryz.f3 13) (vh l aA wy x n nx la k X)=
 (let q0:av cod:=.aF [.int .i64 2,.int .i64 3,.int .i64 4,.int .i64 1,.int .i64 160,.int .i64 128,.ai 5 0 (n) false,.int .i64 nx,.int .i64 la] 62;
 let q1:av cod:=.aF [.int .i64 2,.int .i64 3,.int .i64 4,.int .i64 1,.int .i64 160,.int .i64 128,.ai 6 0 (n) false,.int .i64 nx,.int .i64 la] 62;
 let q2:=List.length X;
 let q3:=IntKind.wrap .i64 (Int.ofNat q2 - 1);
 let q4:=List.length (F.jG l);
 let q5:av cod:=.own 2 (List.take q2 (List.drop 0 X)) 42;
 let q6:av cod:=.own 2 (F.jG l) 58;
 .ite (decide (List.length X=0)) (.aa (List.length X=0) (.ret (.cut (bu Tryz.f3 18) ⟨bc 68 [(1,.c (.int .i64 wy)),(3,.c (.own 1 q4)),(0,.c (.ptr 2 0 0)),(1,.c (.ptr 3 0 0)),(1,.c (.ai 4 0 2 true)),(0,.c (.int .i64 k)),(0,.c (.ai 7 0 q2 false)),(1,.c (.ai 7 0 0 true)),(28,.c (.int .i64 k))],[.aB 0 l,q6,q0,q1,.arr 2 F.sites 64,.own 6 x 81,.own 6 x 81,.aB 2 X]⟩))) (.aa ((0+List.length X≤List.length X∧((0:Nat) < List.length X∧List.length X≤1000000))) (cond (decide (0 < Int.ofNat q2)) (.aa (F.RH 0 q3) (.ret (.cut (bu Tryz.f3 16) ⟨bc 68 [(1,.c (.int .i64 wy)),(3,.c (.own 1 q4)),(0,.c (.ptr 2 0 0)),(1,.c (.ptr 3 0 0)),(1,.c (.ai 4 0 2 true)),(0,.c (.int .i64 k)),(0,.c (.ai 7 0 q2 false)),(1,.c (.own 8 q2)),(0,.c (.int .i64 (F.AF (IntKind.wrap .i64 (wy+k)) 0 q3))),(27,.c (.int .i64 k))],[.aB 0 l,q6,q0,q1,.arr 2 F.sites 64,.own 6 x 81,.own 6 x 81,.aB 2 X,q5]⟩))) (.ret (.cut (bu Tryz.f3 18) ⟨bc 68 [(1,.c (.int .i64 wy)),(3,.c (.own 1 q4)),(0,.c (.ptr 2 0 0)),(1,.c (.ptr 3 0 0)),(1,.c (.ai 4 0 2 true)),(0,.c (.int .i64 k)),(0,.c (.ai 7 0 q2 false)),(1,.c (.own 8 q2)),(28,.c (.int .i64 k))],[.aB 0 l,q6,q0,q1,.arr 2 F.sites 64,.own 6 x 81,.own 6 x 81,.aB 2 X,q5]⟩))))):=by kernel_rfl
noncomputable def zA (l:List Int) (_:Bool) (wy:Int) (x:List F.bJ) (n:Nat) (nx la k:Int) (X:List (Int×Int×Int×Int×Int×Int)) (m:Int):St cod:=⟨bc 68 [(1,.c (.int .i64 wy)),(3,.c (.own 1 (F.jG l).length)),(0,.c (.ptr 2 0 0)),(1,.c (.ptr 3 0 0)),(1,.c (.ai 4 0 2 true)),(0,.c (.int .i64 k)),(0,.c (.ai 7 0 X.length false)),(1,.c (.ai 8 0 X.length false)),(0,.c (.int .i64 m)),(27,.c (.int .i64 k))],([.aB 0 l,.own 2 (F.jG l) 58,.aF [.int .i64 2,.int .i64 3,.int .i64 4,.int .i64 1,.int .i64 160,.int .i64 128,.ai 5 0 n false,.int .i64 nx,.int .i64 la] 62,.aF [.int .i64 2,.int .i64 3,.int .i64 4,.int .i64 1,.int .i64 160,.int .i64 128,.ai 6 0 n false,.int .i64 nx,.int .i64 la] 62,.arr 2 F.sites 64,.own 6 x 81,.own 6 x 81,.aB 2 X,.aB 2 X]:Heap cod)⟩
noncomputable def vk (l:List Int) (_:Bool) (wy:Int) (x:List F.bJ) (n:Nat) (nx la k:Int) (_:List (Int×Int×Int×Int×Int×Int)):St cod:=⟨bc 68 [(1,.c (.int .i64 wy)),(3,.c (.own 1 (F.jG l).length)),(0,.c (.ptr 2 0 0)),(1,.c (.ptr 3 0 0)),(1,.c (.ai 4 0 2 true)),(0,.c (.int .i64 k)),(0,.c (.ai 7 0 0 false)),(1,.c (.ai 7 0 0 true)),(28,.c (.int .i64 k))],([.aB 0 l,.own 2 (F.jG l) 58,.aF [.int .i64 2,.int .i64 3,.int .i64 4,.int .i64 1,.int .i64 160,.int .i64 128,.ai 5 0 n false,.int .i64 nx,.int .i64 la] 62,.aF [.int .i64 2,.int .i64 3,.int .i64 4,.int .i64 1,.int .i64 160,.int .i64 128,.ai 6 0 n false,.int .i64 nx,.int .i64 la] 62,.arr 2 F.sites 64,.own 6 x 81,.own 6 x 81,.aB 2 []]:Heap cod)⟩
theorem PM (l:List Int) (aA:Bool) (wy:Int) (x:List F.bJ) (n:Nat) (nx la k:Int) (X:List (Int×Int×Int×Int×Int×Int)):aI (As dK) pa Tryz.f3.results.toList 1 400 (bu Tryz.f3 18) (vk l aA wy x n nx la k X)=
 (let q1:=IntKind.wrap .i64 (4*k);
 let q2:=F.bI [] 500;
 let q3:=List.take n x;
 let q0:=F.Hn 2 3 4 1 160 128 q3 nx la q2 q1;
 let q4:=List.length (F.WD 2 3 4 1 160 128 q3 nx la q2 q1);
 let q5:av cod:=.own 6 (F.XA 2 3 4 1 160 128 q3 nx la q2 q1) 81;
 let q6:=F.RC 4 1 160 128 q3 nx la q2 q1;
 let q7:=F.lW 2 3 x n nx la [] q1;
 .aa ((SV.c (Cell.ai 1 0 0 false):SV)=SV.c (Cell.ai 1 0 0 false)) (.aa q7 (.aa ((SV.c (Cell.ai 1 0 0 true):SV)=SV.c (Cell.ai 1 0 0 true)) (.aa q7 (.aa (((0=0∧List.length q0=List.length q0)∧((0=0∧List.length q0=List.length q0)∧F.TJ q0 q0))) (.ret (.cut (cutAt Tryz.f3 8) ⟨bc 68 [(1,.c (.int .i64 wy)),(3,.c (.own 1 (F.jG l).length)),(0,.c (.ptr 2 0 0)),(1,.c (.ptr 3 0 0)),(1,.c (.ai 4 0 2 true)),(32,.c (.int .i64 (IntKind.wrap .i64 (k+1))))],[.aB 0 l,.own 2 (F.jG l) 58,.aF [.int .i64 2,.int .i64 3,.int .i64 4,.int .i64 1,.int .i64 160,.int .i64 128,.ai 9 0 q4 false,.int .i64 q6,.int .i64 q1] 62,.aF [.int .i64 2,.int .i64 3,.int .i64 4,.int .i64 1,.int .i64 160,.int .i64 128,.ai 11 0 q4 false,.int .i64 q6,.int .i64 q1] 62,.arr 2 F.sites 64,.own 6 x 81,.own 6 x 81,.aB 2 [],.own 5 q0 50,q5,.own 5 q0 50,q5]⟩))))))):=by kernel_rfl
noncomputable def zB (l:List Int) (_:Bool) (wy:Int) (x:List F.bJ) (n:Nat) (nx la k:Int) (X:List (Int×Int×Int×Int×Int×Int)) (Y:List (Int×Int×Int×Int×Int×Int)):St cod:=⟨bc 68 [(1,.c (.int .i64 wy)),(3,.c (.own 1 (F.jG l).length)),(0,.c (.ptr 2 0 0)),(1,.c (.ptr 3 0 0)),(1,.c (.ai 4 0 2 true)),(0,.c (.int .i64 k)),(0,.c (.ai 7 0 X.length false)),(1,.c (.ai 8 0 Y.length false)),(28,.c (.int .i64 k))],([.aB 0 l,.own 2 (F.jG l) 58,.aF [.int .i64 2,.int .i64 3,.int .i64 4,.int .i64 1,.int .i64 160,.int .i64 128,.ai 5 0 n false,.int .i64 nx,.int .i64 la] 62,.aF [.int .i64 2,.int .i64 3,.int .i64 4,.int .i64 1,.int .i64 160,.int .i64 128,.ai 6 0 n false,.int .i64 nx,.int .i64 la] 62,.arr 2 F.sites 64,.own 6 x 81,.own 6 x 81,.aB 2 X,.aB 2 Y]:Heap cod)⟩
theorem U5 (l:List Int) (aA:Bool) (wy:Int) (x:List F.bJ) (n:Nat) (nx la k:Int) (X:List (Int×Int×Int×Int×Int×Int)) (Y:List (Int×Int×Int×Int×Int×Int)):aI (As dK) qT Tryz.f3.results.toList 1 400 (bu Tryz.f3 18) (zB l aA wy x n nx la k X Y)=
 (let q0:=IntKind.wrap .i64 (4*k);
 let q3:=List.take n x;
 let q4:=F.bI X 500;
 let q1:=F.Hn 2 3 4 1 160 128 q3 nx la q4 q0;
 let q5:=F.bI Y 500;
 let q2:=F.Hn 2 3 4 1 160 128 q3 nx la q5 q0;
 .aa (SV.c (Cell.ai 1 0 X.length false)=SV.c (Cell.ai 1 0 X.length false)) (.aa (F.lW 2 3 x n nx la X q0) (.aa (SV.c (Cell.ai 1 0 Y.length false)=SV.c (Cell.ai 1 0 Y.length false)) (.aa (F.lW 2 3 x n nx la Y q0) (.aa (((0=0∧List.length q1=List.length q1)∧((0=0∧List.length q2=List.length q2)∧F.TJ q1 q2))) (.ret (.cut (cutAt Tryz.f3 8) ⟨bc 68 [(1,.c (.int .i64 wy)),(3,.c (.own 1 (F.jG l).length)),(0,.c (.ptr 2 0 0)),(1,.c (.ptr 3 0 0)),(1,.c (.ai 4 0 2 true)),(32,.c (.int .i64 (IntKind.wrap .i64 (k+1))))],[.aB 0 l,.own 2 (F.jG l) 58,.aF [.int .i64 2,.int .i64 3,.int .i64 4,.int .i64 1,.int .i64 160,.int .i64 128,.ai 10 0 (F.WD 2 3 4 1 160 128 q3 nx la q4 q0).length false,.int .i64 (F.RC 4 1 160 128 q3 nx la q4 q0),.int .i64 q0] 62,.aF [.int .i64 2,.int .i64 3,.int .i64 4,.int .i64 1,.int .i64 160,.int .i64 128,.ai 12 0 (F.WD 2 3 4 1 160 128 q3 nx la q5 q0).length false,.int .i64 (F.RC 4 1 160 128 q3 nx la q5 q0),.int .i64 q0] 62,.arr 2 F.sites 64,.own 6 x 81,.own 6 x 81,.aB 2 X,.aB 2 Y,.own 5 q1 50,.own 6 (F.XA 2 3 4 1 160 128 q3 nx la q4 q0) 81,.own 5 q2 50,.own 6 (F.XA 2 3 4 1 160 128 q3 nx la q5 q0) 81]⟩))))))):=by kernel_rfl
theorem afv (l:List Int) (aA:Bool) (wy:Int) (x:List F.bJ) (n:Nat) (nx la k:Int) (X:List (Int×Int×Int×Int×Int×Int)) (m:Int):((Sym.lT (As dK) (rH Q16 [0,1,4,5,2,6,3,7,8]) (zA l aA wy x n nx la k X m)).bind fun s=>aI (As dK) qS Tryz.f3.results.toList 1 400 (bu Tryz.f3 16).tail s)=
 (let q1:av cod:=.aF [.int .i64 2,.int .i64 3,.int .i64 4,.int .i64 1,.int .i64 160,.int .i64 128,.ai 5 0 (n) false,.int .i64 nx,.int .i64 la] 62;
 let q2:av cod:=.aF [.int .i64 2,.int .i64 3,.int .i64 4,.int .i64 1,.int .i64 160,.int .i64 128,.ai 6 0 (n) false,.int .i64 nx,.int .i64 la] 62;
 let q3:=List.length X - Int.toNat m;
 let q4:=List.drop 0 X;
 let q0:=List.take m.toNat q4;
 let q5:=List.length X;
 let q6:=List.length X - Int.toNat m=0;
 let q7:=List.drop (0+Int.toNat m) X;
 let q8:=List.length q0=Int.toNat m;
 .aa (((0:Int)≤m∧m≤Int.ofNat q5)) (.aa (((0:Int)≤m∧m≤Int.ofNat q5)) (.ite (decide q6) (.aa q6 (.aa q8 (.aa (0=0) (.aa (((0:Nat) < List.length q0∧0+List.length q0≤1000000)) (.aa (List.length ([]++List.take m.toNat q4)≤1000000) (.ret (.cut (bu Tryz.f3 18) ⟨bc 68 [(1,.c (.int .i64 wy)),(3,.c (.own 1 (F.jG l).length)),(0,.c (.ptr 2 0 0)),(1,.c (.ptr 3 0 0)),(1,.c (.ai 4 0 2 true)),(0,.c (.int .i64 k)),(0,.c (.ai 7 0 q5 false)),(1,.c (.own 9 (0+List.length q0))),(28,.c (.int .i64 k))],[.aB 0 l,.own 2 (F.jG l) 58,q1,q2,.arr 2 F.sites 64,.own 6 x 81,.own 6 x 81,.aB 2 X,.aB 2 X,.own 2 (List.reverse ([]++List.take m.toNat q4)) 42]⟩))))))) (.aa ((0+Int.toNat m+q3≤List.length X∧((0:Nat) < List.length X - Int.toNat m∧List.length X - Int.toNat m≤1000000))) (.aa q8 (.aa (List.length X - Int.toNat m+List.length q0≤1000000) (.aa (List.length (List.take q3 q7++List.take m.toNat q4)≤1000000) (.ret (.cut (bu Tryz.f3 18) ⟨bc 68 [(1,.c (.int .i64 wy)),(3,.c (.own 1 (F.jG l).length)),(0,.c (.ptr 2 0 0)),(1,.c (.ptr 3 0 0)),(1,.c (.ai 4 0 2 true)),(0,.c (.int .i64 k)),(0,.c (.ai 7 0 q5 false)),(1,.c (.own 9 (List.length X - Int.toNat m+List.length q0))),(28,.c (.int .i64 k))],[.aB 0 l,.own 2 (F.jG l) 58,q1,q2,.arr 2 F.sites 64,.own 6 x 81,.own 6 x 81,.aB 2 X,.aB 2 X,.own 2 (List.reverse (List.take q3 q7++List.take m.toNat q4)) 42]⟩))))))))):=by kernel_rfl
theorem abx:bu Tryz.f3 16= .code (.region (idI (bu Tryz.f3 16)) Q16 true)::(bu Tryz.f3 16).tail:=by kernel_rfl
theorem XJ:[0,1,4,5,2,6,3,7,8].length=Q16.size:=by kernel_rfl
theorem aby:rI Q16 [0,1,4,5,2,6,3,7,8] (Array.replicate Q16.size false)=true:=by kernel_rfl
theorem Ou:lm (As dK) Q16 [0,1,4,5,2,6,3,7,8] (Array.replicate Q16.size false)=true:=by kernel_rfl
theorem SJ:([0,1,4,5,2,6,3,7,8].all fun i=>match Q16[i]? with | some o=>o.guard.isNone | none=>false)=true:=by kernel_rfl
theorem WL (time:Int):F.seen F.sites [] time=[]:=by kernel_rfl
noncomputable def Vy (l:List Int) (x:List F.bJ) (n:Nat) (nx la:Int) (k:Nat):Prop:=n≤x.length∧n≤6*k∧(0≤nx∧nx≤6*k)∧(-1≤la∧la < 4*k)∧((F.jG l).length=0→n=0)
noncomputable def VB (l:List Int) (X:List F.Sp) (k:Nat):Prop:=F.ft X (4*k)∧X.length≤6∧(0 < (F.jG l).length→0 < X.length)∧((F.jG l).length=0→X.length=0)
theorem VC {l:List Int} {X Y:List F.Sp} {k:Nat} (h:X.Perm Y) (ho:VB l X k):VB l Y k:=
 ⟨DX h ho.1,by rw [←h.length_eq];exact ho.2.1,fun c=>by rw [←h.length_eq];exact ho.2.2.1 c,fun c=>by rw [←h.length_eq];exact ho.2.2.2 c⟩
theorem VD (l:List Int) {k:Nat} (hk:k < 4):VB l (F.seen F.sites (F.jG l) (4*k)) k:=by
 obtain ⟨h1,h2,h3⟩:=ZY (l:=F.sites) (fs:=F.jG l) (time:=4*k) ⟨rfl,M5 l,T1 l,by omega⟩;refine ⟨h1,h2,h3,fun c=>?_⟩;rw [List.eq_nil_of_length_eq_zero c,WL];rfl
theorem tQ {l:List Int} {x:List F.bJ} {n:Nat} {nx la:Int} {k:Nat} {X:List F.Sp} (hk:k < 4) (hH:Vy l x n nx la k) (hX:VB l X k):F.lW 2 3 x n nx la X (4*k):=by
 obtain ⟨a1,a2,a3,a4,a5⟩:=hH;obtain ⟨b1,b2,b3,b4⟩:=hX;refine ⟨rfl,b1,a4,by omega,a1,by omega,by omega,?_⟩;by_cases c:(F.jG l).length=0
 ·exact .inl (a5 c)
 ·exact .inr (b3 (by omega))
theorem N0 {l:List Int} {x:List F.bJ} {n:Nat} {nx la:Int} {k:Nat} {X:List F.Sp} (_:Vy l x n nx la k) (_:VB l X k):(F.WD 2 3 4 1 160 128 (x.take n) nx la (F.bI X 500) (4*k)).length≤n+X.length∧nx≤F.RC 4 1 160 128 (x.take n) nx la (F.bI X 500) (4*k)∧F.RC 4 1 160 128 (x.take n) nx la (F.bI X 500) (4*k)≤nx+X.length:=by
 have h1:=Dt (F.scC 2 3 4 1 160 128 (x.take n) nx la (F.bI X 500) (4*k)) (4*k);have h2:=MX 2 3 (F.scB 4 1 160 128 (x.take n) nx la (F.bI X 500) (4*k)).1;have h3:=ZU 4 1 160 128 (x.take n) nx la (F.bI X 500) (4*k);have h4:=(oD X 500).1;have h5:(x.take n).length≤n:=by rw [List.length_take];omega
 unfold F.WD F.RC;unfold F.scC at h1 ⊢;refine ⟨by omega,h3.2.1,by omega⟩
theorem G4 {l:List Int} {x:List F.bJ} {n:Nat} {nx la:Int} {k:Nat} {X:List F.Sp} (hH:Vy l x n nx la k) (hX:VB l X k):
 Vy l (F.XA 2 3 4 1 160 128 (x.take n) nx la (F.bI X 500) (4*k)) (F.WD 2 3 4 1 160 128 (x.take n) nx la (F.bI X 500) (4*k)).length (F.RC 4 1 160 128 (x.take n) nx la (F.bI X 500) (4*k)) (4*k) (k+1):=by
 obtain ⟨h1,h2,h3⟩:=N0 hH hX;obtain ⟨a1,a2,a3,a4,a5⟩:=hH;obtain ⟨b1,b2,b3,b4⟩:=hX;refine ⟨?_,by omega,⟨by omega,by omega⟩,⟨by omega,by omega⟩,fun c=>?_⟩
 ·unfold F.XA F.WD;rw [M8];exact Dt _ _
 ·have:=a5 c;have:=b4 c;omega
theorem M2 {l:List Int} {x:List F.bJ} {n:Nat} {nx la:Int} {k:Nat} {X:List F.Sp} (hk:k < 4) (hH:Vy l x n nx la k) (hX:VB l X k):F.TJ (F.Hn 2 3 4 1 160 128 (x.take n) nx la (F.bI X 500) (4*k)) (F.Hn 2 3 4 1 160 128 (x.take n) nx la (F.bI X 500) (4*k)):=by
 refine ⟨rfl,?_⟩;have h1:=(N0 hH hX).1;have h2:=hH.2.1;have h3:=hX.2.1;unfold F.Hn;rw [List.length_map];omega
noncomputable def Next (b0:aC) (l:List Int) (aA:Bool) (wy:Int) (k:Nat):Prop:=∀(x:List F.bJ) (n:Nat) (nx la:Int),Vy l x n nx la (k+1)→Sym.af Tryz.prog b0 (cutAt Tryz.f3 8) (zy l aA wy x n nx la (((k+1:Nat)):Int)) (Sym.Ends Tryz.prog Tryz.f3 1 (.c (.bool true)) [])
theorem w4 {k:Nat} (hk:k < 4):IntKind.wrap .i64 (4*(k:Int))=4*k:=bM (by unfold ae;omega)
theorem w1 {k:Nat} (hk:k < 4):IntKind.wrap .i64 ((k:Int)+1)=((k+1:Nat):Int):=by rw [bM (by unfold ae;omega)];omega
theorem Ze (l:List Int) (aA:Bool) (wy:Int) (b0:aC) (hb:b0.n=1) (k:Nat) (hk:k < 4) (nxt:Next b0 l aA wy k) (x:List F.bJ) (n:Nat) (nx la:Int) (hH:Vy l x n nx la k) (X Y:List F.Sp) (hX:VB l X k) (hp:X.Perm Y):
 Sym.af Tryz.prog b0 (bu Tryz.f3 18) (zB l aA wy x n nx la (k:Int) X Y) (Sym.Ends Tryz.prog Tryz.f3 1 (.c (.bool true)) []):=by
 have hY:=VC hp hX;have s1:=tQ hk hH hX;have s2:=tQ hk hH hY;have q:=M2 hk hH hX;have fK:=nxt _ _ _ _ (G4 hH hX);refine af.go (cfg:=(As dK)) eP mixed qT 400 hb (U5 l aA wy x n nx la (k:Int) X Y) ?_;simp only [T.wp,bF];rw [w4 hk,w1 hk,←Mn hp 500];refine ⟨trivial,s1,trivial,s2,⟨⟨trivial,trivial⟩,⟨trivial,trivial⟩,q⟩,?_⟩;exact af.iW [0,1,2,3,4,10,12] 2 hb (by decide) rfl rfl rfl fK
theorem UX (l:List Int) (aA:Bool) (wy:Int) (b0:aC) (hb:b0.n=1) (k:Nat) (hk:k < 4) (nxt:Next b0 l aA wy k) (x:List F.bJ) (n:Nat) (nx la:Int) (hH:Vy l x n nx la k) (hX:VB l [] k):
 Sym.af Tryz.prog b0 (bu Tryz.f3 18) (vk l aA wy x n nx la (k:Int) []) (Sym.Ends Tryz.prog Tryz.f3 1 (.c (.bool true)) []):=by
 have s1:=tQ hk hH hX;have q:=M2 hk hH hX;have fK:=nxt _ _ _ _ (G4 hH hX);refine af.go (cfg:=(As dK)) eP mixed pa 400 hb (PM l aA wy x n nx la (k:Int) []) ?_;simp only [T.wp,bF];rw [w4 hk,w1 hk];refine ⟨trivial,s1,trivial,s1,⟨⟨trivial,trivial⟩,⟨trivial,trivial⟩,q⟩,?_⟩;exact af.iW [0,1,2,3,4,9,11] 2 hb (by decide) rfl rfl rfl fK
theorem Zd (l:List Int) (aA:Bool) (wy:Int) (b0:aC) (hb:b0.n=1) (k:Nat) (hk:k < 4) (nxt:Next b0 l aA wy k) (x:List F.bJ) (n:Nat) (nx la:Int) (hH:Vy l x n nx la k) (X:List F.Sp) (hX:VB l X k) (m:Int) (hm:0≤m∧m < X.length):
 Sym.af Tryz.prog b0 (bu Tryz.f3 16) (zA l aA wy x n nx la (k:Int) X m) (Sym.Ends Tryz.prog Tryz.f3 1 (.c (.bool true)) []):=by
 have h6:=hX.2.1;have e1:(List.take m.toNat (List.drop 0 X)).length=Int.toNat m:=by simp only [List.length_take,List.length_drop];omega
 have e2:List.length X - Int.toNat m+(List.take m.toNat (List.drop 0 X)).length=(List.reverse (List.take (List.length X - Int.toNat m) (List.drop (0+Int.toNat m) X)++List.take m.toNat (List.drop 0 X))).length:=by
  simp only [List.length_reverse,List.length_append,List.length_take,List.length_drop];omega
 have e3:(List.take (List.length X - Int.toNat m) (List.drop (0+Int.toNat m) X)++List.take m.toNat (List.drop 0 X)).length≤1000000:=by
  simp only [List.length_append,List.length_take,List.length_drop];omega
 have hp:X.Perm (List.reverse (List.take (List.length X - Int.toNat m) (List.drop (0+Int.toNat m) X)++List.take m.toNat (List.drop 0 X))):=by
  refine List.Perm.trans ?_ (List.reverse_perm _).symm;rw [Nat.zero_add,List.drop_zero,List.take_of_length_le (l:=List.drop m.toNat X) (by rw [List.length_drop];omega)];refine List.Perm.trans ?_ List.perm_append_comm;rw [List.take_append_drop]
 have run:=Ze l aA wy b0 hb k hk nxt x n nx la hH X _ hX hp;refine af.aiu (cfg:=(As dK)) eP mixed qS 400 hb abx [0,1,4,5,2,6,3,7,8] XJ aby Ou SJ (afv l aA wy x n nx la (k:Int) X m) ?_;simp only [T.wp,bF];have oo:(0:Int)≤m∧m≤Int.ofNat X.length:=⟨hm.1,by simp only [Int.ofNat_eq_natCast];omega⟩;refine ⟨oo,oo,fun c=>absurd (of_decide_eq_true c) (by omega),fun _=>⟨by omega,e1,by omega,e3,?_⟩⟩;rw [e2];refine af.view 9 rfl ?_;exact af.iW [0,1,2,3,4,5,6,7,9] 14 hb (by decide) rfl rfl rfl run
theorem Zc (l:List Int) (aA:Bool) (wy:Int) (b0:aC) (hb:b0.n=1) (k:Nat) (hk:k < 4) (nxt:Next b0 l aA wy k) (x:List F.bJ) (n:Nat) (nx la:Int) (hH:Vy l x n nx la k) (X:List F.Sp) (hX:VB l X k):
 Sym.af Tryz.prog b0 (bu Tryz.f3 13) (vh l aA wy x n nx la (k:Int) X) (Sym.Ends Tryz.prog Tryz.f3 1 (.c (.bool true)) []):=by
 refine af.go (cfg:=(As dK)) eP mixed oZ 400 hb (PL l aA wy x n nx la (k:Int) X) ?_;have h6:=hX.2.1;simp only [T.wp,T.wp_cond,bF];by_cases c:X.length=0
 ·have e:=List.eq_nil_of_length_eq_zero c;subst e;exact ⟨fun _=>⟨c,UX l aA wy b0 hb k hk nxt x n nx la hH hX⟩,fun h=>absurd c (of_decide_eq_false h)⟩
 ·refine ⟨fun h=>absurd (of_decide_eq_true h) c,fun _=>⟨by omega,?_⟩⟩;have ew:IntKind.wrap .i64 (Int.ofNat X.length - 1)=(X.length:Int) - 1:=bM (by unfold ae;simp only [Int.ofNat_eq_natCast];omega);rw [ew];have hm:=ql (lo:=0) (hi:=(X.length:Int) - 1) (IntKind.wrap .i64 (wy+k)) (by omega);have eX:List.take X.length (List.drop 0 X)=X:=by rw [List.drop_zero,List.take_of_length_le (Nat.le_refl _)]
  erw [eX]
  refine aq (decide_eq_true (by simp only [Int.ofNat_eq_natCast];omega)) ⟨⟨by omega,by omega,by omega⟩,?_⟩;refine af.view 8 rfl ?_;refine af.soft 14 rfl ?_;exact Zd l aA wy b0 hb k hk nxt x n nx la hH X hX _ (by omega)
theorem ac3 (l:List Int) (aA:Bool) (wy:Int) (b0:aC) (hb:b0.n=1):∀(q k:Nat),k+q=4→∀(x:List F.bJ) (n:Nat) (nx la:Int),Vy l x n nx la k→
 Sym.af Tryz.prog b0 (cutAt Tryz.f3 8) (zy l aA wy x n nx la (k:Int)) (Sym.Ends Tryz.prog Tryz.f3 1 (.c (.bool true)) []):=by
 intro q
 induction q with
 | zero=>
   intro k hk x n nx la hH;refine af.go (cfg:=(As dK)) eP mixed nf 400 hb (UZ l aA wy x n nx la (k:Int)) ?_;obtain ⟨a1,a2,a3,a4,a5⟩:=hH;simp only [T.wp,T.wp_cond,bF]
   refine ap (by rw [decide_eq_false (by omega)];decide) ⟨⟨a1,by omega⟩,⟨a1,by omega⟩,⟨⟨trivial,?_⟩,⟨trivial,?_⟩,rfl,?_⟩,(by first | exact ⟨rfl,rfl⟩ | exact ⟨rfl,trivial⟩ | exact ⟨trivial,rfl⟩ | exact ⟨trivial,trivial⟩)⟩<;>rw [List.length_map,List.length_take]<;>omega
 | succ q ih=>
   intro k hk x n nx la hH;have hk4:k < 4:=by omega
   have run:=Zc l aA wy b0 hb k hk4 (fun x n nx la h=>ih (k+1) (by omega) x n nx la h) x n nx la hH _ (VD l hk4);refine af.go (cfg:=(As dK)) eP mixed nf 400 hb (UZ l aA wy x n nx la (k:Int)) ?_;simp only [T.wp,T.wp_cond,bF];rw [w4 hk4];refine aq (decide_eq_true (by omega)) ⟨⟨⟨trivial,trivial⟩,⟨trivial,trivial⟩,rfl,M5 l,T1 l,by omega⟩,?_⟩;exact af.view 7 rfl (af.soft 12 rfl run)
theorem Zf (l:List Int) (aA:Bool) (wy:Int) (b0:aC) (hb:b0.n=1):Sym.af Tryz.prog b0 [.code (aj Tryz.f3)] ⟨ay Tryz.f3 [.c (.ai 0 0 l.length aA),.c (.int .i64 wy)],([.aB 0 l]:Heap cod)⟩ (Sym.Ends Tryz.prog Tryz.f3 1 (.c (.bool true)) []):=by
 refine af.go (cfg:=(As dK)) eP mixed nf 400 hb (ac4 l aA wy) ?_;refine ⟨⟨rfl,rfl⟩,VV,VV,?_⟩;have run:=ac3 l aA wy b0 hb 4 0 rfl [] 0 0 (-1) ⟨Nat.le_refl _,Nat.le_refl _,by omega,by omega,fun _=>rfl⟩;refine af.made 2 6 6 81 rfl rfl rfl ?_;refine af.sj 2 rfl ?_;refine af.made 3 6 6 81 rfl rfl rfl ?_;exact af.sj 3 rfl run
noncomputable def abi:aH cod:=fun args H=>match args,H with
 | [.c (.ai 0 cF cA _),.c (.int .i64 _)],[o0]=>(match o0.cV 0 with | some l=>.aa ((cF=0∧cA=List.length l)) (.ret (.c (.bool true),[])) | none=>.fail)
 | _,_=>.fail
theorem PK:Sound Tryz.prog cod 3 abi:=ax (cfg:=XD) eP mixed Tryz.func3 rfl rfl _ fun args H r news hg b0 hb=>by
 unfold abi at hg;split at hg
 ·skip
  split at hg
  ·rename_i l gG;cases aR gG;simp only [T.ah,T.wp,Prod.mk.injEq] at hg;obtain ⟨⟨rfl,rfl⟩,rfl,rfl⟩:=hg;exact Zf _ _ _ b0 hb
  ·exact hg.elim
 ·exact hg.elim
end
end
section
open Go.ChangeShapes Go.WideShapes Go.ChangeAt Go.RowKit
noncomputable def ae (n:Int):Prop:=-9223372036854775808≤n∧n≤9223372036854775807
theorem wf_i64 {n:Int} (h:(Lit.int .i64 n).wf=true):ae n:=bounds_i64 h
theorem Jc (a:Addr) (i j:Nat):(a.add i).add j=a.add (i+j):=by
 unfold Addr.add;by_cases hi:i=0<;>by_cases hj:j=0<;>simp [hi,hj,Nat.add_assoc]
theorem add_plain (b o n:Nat):(⟨b,o,none⟩:Addr).add n=⟨b,o+n,none⟩:=by unfold Addr.add;split<;>simp_all
noncomputable def Reads (w:World) (B size:Nat) (A:Option Addr) (n:Nat) (xs:List Value):Prop:=
 xs.length=n*size∧(0 < n→∃b off,A=some ⟨b,off,none⟩∧b < B∧∀j u,xs[j]? =some u→w.cell? ⟨b,off+j,none⟩=some u)
section
variable {w w':World} {B B' size n:Nat} {A:Option Addr} {xs:List Value}
theorem Reads.none_:Reads w B size A 0 []:=⟨by simp,fun h=>absurd h (by omega)⟩
end
section
variable {H:Type} {enc:TypeId×Value→H} {P:Program} {w:World} {base:Nat} {spare:Nat→Bool} {held:Bool}
end
theorem np {α β:Type} (f:α→List β) (k:Nat) (hf:∀a,(f a).length=k):∀l:List α,(l.flatMap f).length=l.length*k
 | []=>by simp
 | a::l=>by rw [List.flatMap_cons,List.length_append,hf,np f k hf l,List.length_cons,Nat.add_mul];omega
theorem nm {α β:Type} (f:α→List β) (k:Nat) (hf:∀a,(f a).length=k):∀(l:List α) (i j:Nat) (a:α),l[i]? =some a→j < k→(l.flatMap f)[i*k+j]? =(f a)[j]?
 | [],_,_,_,h,_=>by simp at h
 | b::l,0,j,a,h,hj=>by
   simp only [List.getElem?_cons_zero,Option.some.injEq] at h;subst h;rw [List.flatMap_cons,List.getElem?_append_left (by rw [hf];omega)]
   simp
 | b::l,i+1,j,a,h,hj=>by
   have e:(i+1)*k+j=k+(i*k+j):=by rw [Nat.add_mul];omega
   rw [List.flatMap_cons,List.getElem?_append_right (by rw [hf,e];omega),hf,e,Nat.add_sub_cancel_left];exact nm f k hf l i j a (by simpa using h) hj
section
variable {w w':World} {g:Nat} {t:TypeId} {cs:Array Value}
end
noncomputable def leaves (P:Program):Nat→TypeId→Option (List TypeId)
 | 0,_=>none
 | d+1,t=>
   match P.underlying t with
   | some (.struct fs)=>
     (fs.toList.foldl (fun acc f=>acc.bind fun l=>(leaves P d f.type).bind fun m=>if f.offset=l.length∧P.cellsOf f.type=m.length then some (l++m) else none) (some [])).bind fun l=>if P.cellsOf t=l.length then some l else none
   | some (.array n e)=>(leaves P d e).bind fun l=>if P.cellsOf e=l.length∧P.cellsOf t=n*l.length then some ((List.replicate n l).flatten) else none
   | some _=>if P.cellsOf t=1 then some [t] else none
   | none=>none
section
variable {H:Type} {enc:TypeId×Value→H} {P:Program} {w:World} {base:Nat} {spare:Nat→Bool} {held:Bool}
noncomputable def eS (enc:TypeId×Value→H) (P:Program) (w:World) (base:Nat) (spare:Nat→Bool) (held:Bool) (ls:List TypeId) (cs:List Value):Prop:=
 cs.length=ls.length∧∀(i:Nat) (t:TypeId),ls[i]? =some t→∃(v:Value) (f:Nat) (y:DataW H×List MemPlace),cs[i]? =some v∧DataW.trod enc P w base spare held f t [v]=some y
theorem eS.append {l m:List TypeId} {a b:List Value} (h1:eS enc P w base spare held l a) (h2:eS enc P w base spare held m b):eS enc P w base spare held (l++m) (a++b):=by
 refine ⟨by rw [List.length_append,List.length_append,h1.1,h2.1],fun i t hi=>?_⟩;by_cases h:i < l.length
 ·rw [List.getElem?_append_left h] at hi;obtain ⟨v,f,y,hv,hy⟩:=h1.2 i t hi;exact ⟨v,f,y,by rw [List.getElem?_append_left (by rw [h1.1];exact h)];exact hv,hy⟩
 ·rw [List.getElem?_append_right (by omega)] at hi;obtain ⟨v,f,y,hv,hy⟩:=h2.2 _ t hi;exact ⟨v,f,y,by rw [List.getElem?_append_right (by rw [h1.1];omega),h1.1];exact hv,hy⟩
theorem jH (P:Program) (d:Nat):∀fs:List Field,fs.foldl (fun acc f=>acc.bind fun l=>(leaves P d f.type).bind fun m=>if f.offset=l.length∧P.cellsOf f.type=m.length then some (l++m) else none) (none:Option (List TypeId))=none
 | []=>rfl
 | _::fs=>jH P d fs
theorem tM:∀(d:Nat) (t:TypeId) (ls:List TypeId) (fuel:Nat) (cs:List Value) (x:DataW H×List MemPlace),leaves P d t=some ls→DataW.trod enc P w base spare held fuel t cs=some x→cs.length=P.cellsOf t→eS enc P w base spare held ls cs
 | 0,_,_,_,_,_,h,_,_=>by cases h
 | d+1,t,ls,fuel,cs,x,h,ht,hlen=>by
   cases hu:P.underlying t with
   | none=>simp [leaves,hu] at h
   | some u=>
     have plain:(if P.cellsOf t=1 then some [t] else none)=some ls→eS enc P w base spare held ls cs:=fun h=>by
      split at h
      ·rename_i h1;have h2:ls=[t]:=(Option.some.inj h).symm;subst h2;refine ⟨by rw [hlen,h1];rfl,fun i t' hi=>?_⟩
       match i,hi with
       | 0,hi=>
         simp at hi;subst hi
         match cs,hlen.trans h1 with
         | [v],_=>exact ⟨v,fuel,x,rfl,ht⟩
       | i+1,hi=>simp at hi
      ·cases h
     cases u with
     | struct fs=>
       simp only [leaves,hu] at h;obtain ⟨xs,n,_,_,_,hxl,hf⟩:=DataW.trod_struct hu ht
       have key:∀(k:Nat) (l r:List TypeId),eS enc P w base spare held l (cs.take l.length)→l.length≤cs.length→
        (fs.toList.drop k).foldl (fun acc f=>acc.bind fun l=>(leaves P d f.type).bind fun m=>if f.offset=l.length∧P.cellsOf f.type=m.length then some (l++m) else none) (some l)=some r→
        r.length≤cs.length→eS enc P w base spare held r (cs.take r.length):=by
        intro k
        induction hk:fs.size - k generalizing k with
        | zero=>
          intro l r h1 _ h2 _;rw [List.drop_of_length_le (by rw [Array.length_toList];omega)] at h2;simp only [List.foldl_nil,Option.some.injEq] at h2;subst h2
          exact h1
        | succ j ih=>
          intro l r h1 hl h2 hr;have fx:k < fs.size:=by omega
          rw [List.drop_eq_getElem_cons (by rw [Array.length_toList];exact fx)] at h2;simp only [List.foldl_cons,Option.bind_some,Array.getElem_toList] at h2
          cases hm:leaves P d fs[k].type with
          | none=>rw [hm] at h2;simp only [Option.bind_none] at h2;rw [jH] at h2;cases h2
          | some m=>
            rw [hm] at h2;simp only [Option.bind_some] at h2;split at h2
            ·rename_i hc;obtain ⟨ho,mA⟩:=hc;have Rr:=hf k fs[k] (by simp [fx]);have hxk:k < xs.length:=by omega
             rw [List.getElem?_eq_getElem hxk,ho,mA] at Rr
             have ah3:(l++m).length≤r.length:=by
              have grow:∀(gs:List Field) (a b:List TypeId),gs.foldl (fun acc f=>acc.bind fun l=>(leaves P d f.type).bind fun m=>if f.offset=l.length∧P.cellsOf f.type=m.length then some (l++m) else none) (some a)=some b→a.length≤b.length:=by
               intro gs
               induction gs with
               | nil=>intro a b h;simp at h;subst h;exact Nat.le_refl _
               | cons g gs ihg=>
                 intro a b h;simp only [List.foldl_cons,Option.bind_some] at h
                 cases hg:leaves P d g.type with
                 | none=>rw [hg] at h;simp only [Option.bind_none] at h;rw [jH] at h;cases h
                 | some mm=>
                   rw [hg] at h;simp only [Option.bind_some] at h;split at h
                   ·have:=ihg _ _ h;rw [List.length_append] at this;omega
                   ·rw [jH] at h;cases h
              exact grow _ _ _ h2
             have Ru:((cs.drop l.length).take m.length).length=P.cellsOf fs[k].type:=by
              rw [List.length_append] at ah3;rw [List.length_take,List.length_drop,mA];omega
             have acN:=tM d fs[k].type m n _ _ hm Rr Ru;have Ud:=h1.append acN
             have e:cs.take l.length++(cs.drop l.length).take m.length=cs.take (l++m).length:=by
              rw [List.length_append,List.take_add]
             rw [e] at Ud;exact ih (k+1) (by omega) (l++m) r Ud (by omega) h2 hr
            ·rw [jH] at h2;cases h2
       cases Gl:fs.toList.foldl (fun acc f=>acc.bind fun l=>(leaves P d f.type).bind fun m=>if f.offset=l.length∧P.cellsOf f.type=m.length then some (l++m) else none) (some []) with
       | none=>rw [Gl] at h;cases h
       | some l=>
         rw [Gl] at h;simp only [Option.bind_some] at h;split at h
         ·rename_i YQ;have h2:ls=l:=(Option.some.inj h).symm;subst h2;have hll:cs.length=ls.length:=hlen.trans YQ;have:=key 0 [] ls ⟨by simp,by simp⟩ (by simp) (by simpa using Gl) (by omega)
          rwa [List.take_of_length_le (by omega)] at this
         ·cases h
     | array n e=>
       simp only [leaves,hu] at h;obtain ⟨xs,m,_,_,_,hxl,hf⟩:=DataW.trod_array hu ht
       cases hm:leaves P d e with
       | none=>rw [hm] at h;cases h
       | some l=>
         rw [hm] at h;simp only [Option.bind_some] at h;split at h
         ·rename_i hc;obtain ⟨pe,YQ⟩:=hc;have h2:ls=(List.replicate n l).flatten:=(Option.some.inj h).symm;subst h2
          have key:∀k,k≤n→eS enc P w base spare held (List.replicate k l).flatten (cs.take (k*l.length)):=by
           intro k
           induction k with
           | zero=>intro _;exact ⟨by simp,by simp⟩
           | succ k ih=>
             intro hk;have h1:=ih (by omega);have Rr:=hf k (by omega);have hxk:k < xs.length:=by omega
             rw [List.getElem?_eq_getElem hxk,pe] at Rr;have Kd:(k+1)*l.length≤n*l.length:=Nat.mul_le_mul_right _ hk;rw [Nat.add_mul,Nat.one_mul] at Kd
             have Ru:((cs.drop (k*l.length)).take l.length).length=P.cellsOf e:=by
              rw [List.length_take,List.length_drop,hlen,YQ,pe];omega
             have Ud:=h1.append (tM d e l m _ _ hm Rr Ru)
             have e1:cs.take (k*l.length)++(cs.drop (k*l.length)).take l.length=cs.take ((k+1)*l.length):=by
              rw [Nat.add_mul,Nat.one_mul,List.take_add]
             have e2:(List.replicate k l).flatten++l=(List.replicate (k+1) l).flatten:=by
              rw [List.replicate_succ',List.flatten_append];simp
             rw [e1,e2] at Ud;exact Ud
          have:=key n (Nat.le_refl _)
          rwa [List.take_of_length_le (by rw [hlen,YQ];exact Nat.le_refl _)] at this
         ·cases h
     | _=>simp only [leaves,hu] at h;exact plain h
theorem F4 {α:Type} (n:Nat) (p:Nat→α→Prop) (h:∀i,i < n→∃a,p i a):∃l:List α,l.length=n∧∀i a,l[i]? =some a→p i a:=by
 induction n with
 | zero=>exact ⟨[],rfl,by simp⟩
 | succ n ih=>
   obtain ⟨l,hl,hp⟩:=ih (fun i hi=>h i (by omega));obtain ⟨a,ha⟩:=h n (by omega);refine ⟨l++[a],by simp [hl],fun i b hb=>?_⟩;by_cases hi:i < n
   ·rw [List.getElem?_append_left (by omega)] at hb;exact hp i b hb
   ·rw [List.getElem?_append_right (by omega),hl] at hb
    have h0:i - n=0:=by
     rcases Nat.eq_zero_or_pos (i - n) with h | h
     ·exact h
     ·rw [List.getElem?_eq_none (by simp;omega)] at hb;cases hb
    rw [h0] at hb;simp at hb;subst hb;have:i=n:=by omega
    subst this;exact ha
theorem Aw {α:Type} (f:α→List Value) (ach:α→Prop) {t e:TypeId} {ls:List TypeId} (d:Nat) {v:Value} {x:DataW H} {p:List MemPlace} {r:Reach} {b0:Nat} (ht:P.underlying t=some (.slice e)) (hl:leaves P d e=some ls) (hc:P.cellsOf e=ls.length) (Pw:0 < ls.length)
 (hf:∀a,(f a).length=ls.length) (hmk:∀cs,eS enc P w 0 (fun _=>true) true ls cs→∃a,cs=f a∧ach a)
 (hv:Value.okWide P w r b0 t v) (h:DataW.Trod enc P w 0 (fun _=>true) true t v x p):
 ∃(A:Option Addr) (n c:Nat) (l:List α),v= .slice A n c∧n≤c∧c≤maxLen∧l.length=n∧Reads w w.heap.size ls.length A n (l.flatMap f)∧(∀a∈l,ach a)∧(A=none→c=0):=by
 obtain ⟨a0,len,cap,rfl⟩:=okWide_slice ht hv;obtain ⟨fuel,hfu⟩:=h;rcases Deep.open_slice ht hfu with ⟨pX,_⟩ | ⟨a,ala,ajM,m,k,D,Pl,pX,_,hlc,mA,hmm,_,hi⟩
 ·simp [Value.cells] at pX;obtain ⟨rfl,rfl,rfl⟩:=pX;exact ⟨none,0,0,[],rfl,Nat.le_refl _,Nat.zero_le _,rfl,Reads.none_,by simp,fun _=>rfl⟩
 ·simp [Value.cells] at pX;obtain ⟨rfl,rfl,rfl⟩:=pX;simp only [if_true] at hmm;subst hmm
  have each:∀i,i < len→∃b:α,ach b∧∀j u,(f b)[j]? =some u→w.cell? (a.add (i*ls.length+j))=some u:=by
   intro i mB;obtain ⟨uK,h1,h2⟩:=hi i (by omega);obtain ⟨_,h3,h4⟩:=World.cells?_some h1;obtain ⟨b,rfl,hg⟩:=hmk uK (tM d e ls _ _ _ hl h2 (h3.trans rfl));refine ⟨b,hg,fun j u hu=>?_⟩
   have hj:j < P.cellsOf e:=by
    rcases Nat.lt_or_ge j (f b).length with h | h
    ·rw [h3] at h;exact h
    ·rw [List.getElem?_eq_none h] at hu;cases hu
   have:=h4 j hj;rw [Jc,hc] at this;rw [this,hu]
  obtain ⟨l,hll,hlp⟩:=F4 len _ each;refine ⟨some a,_,_,l,rfl,hlc,mA,hll,⟨by rw [np f ls.length hf,hll],fun hn=>?_⟩,fun b hb=>?_,by simp⟩
  ·obtain ⟨b,hb⟩:∃b,l[0]? =some b:=⟨_,List.getElem?_eq_getElem (by omega)⟩;obtain ⟨u,hu⟩:∃u,(f b)[0]? =some u:=⟨_,List.getElem?_eq_getElem (by rw [hf];exact Pw)⟩;have YO:=(hlp 0 b hb).2 0 u hu;obtain ⟨bb,off,spot⟩:=a;have afh:spot=none:=by simpa [Addr.add] using World.cell?_spot YO
   subst afh;refine ⟨bb,off,rfl,World.block_lt_of_cell? w _ (by simpa [Addr.add] using YO),fun j u hu=>?_⟩
   have hjl:j < l.length*ls.length:=by
    rcases Nat.lt_or_ge j (l.flatMap f).length with h | h
    ·rwa [np f ls.length hf] at h
    ·rw [List.getElem?_eq_none h] at hu;cases hu
   have hdm:=Nat.div_add_mod' j ls.length;have hq:j / ls.length < l.length:=Nat.div_lt_of_lt_mul (by rw [Nat.mul_comm];exact hjl);have eG:l[j / ls.length]? =some (l[j / ls.length]'hq):=List.getElem?_eq_getElem hq;rw [←hdm,nm f ls.length hf l _ _ _ eG (Nat.mod_lt _ Pw)] at hu;have:=(hlp _ _ eG).2 _ u hu;rw [add_plain,hdm] at this;exact this
  ·obtain ⟨i,mB⟩:=List.getElem?_of_mem hb;exact (hlp i b mB).1
end
end
end Go.Proofs.YtcjagpfbhnmggaaGreatDoor
