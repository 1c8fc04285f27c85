/- Parts of the proof. -/
import Derived.Test.YtcjagpfbhnmggaaGreatDoorBd31
namespace Go.Proofs.YtcjagpfbhnmggaaGreatDoor
section
open Sym Go.RowKit
noncomputable section
set_option maxRecDepth 100000
set_option maxHeartbeats 4000000
noncomputable def ZE:List Item→Array Oper
 | .code (.region _ ops _)::_=>ops
 | _=>#[]
noncomputable def idI:List Item→Nat
 | .code (.region i _ _)::_=>i
 | _=>0
noncomputable def R28:Array Oper:=ZE (bu Tryz.f63 28)
instance i60:OfNat (cod 0).α 1152921504606846976:=⟨(1152921504606846976:Int)⟩
noncomputable def cJ:bA:=[(100005,[10,5,7,9],6),(100006,[10,11,5,7,9],7),(11,[17,15,14,13,16,12,10,18],11),(17,[20,19,17,15,14,13,16,12,10,18,70,71],12),(22,[20,19,17,15,14,13,22,16,12,10,18],13),(25,[20,24,19,17,15,23,14,13,22,16,12,10,18,25,26],13),(100028,[20,19,17,15,23,14,13,22,16,12,10,18,26,24,25],13),(34,[24,15,16,14,20,22,17,13,12,10,18,25,139,140],13),(43,[17,16,15,14,13,12,10,18,19],11),(48,[16,13,12,30,29],11)]
noncomputable def qV:bA:=[(100006,[10,11,5,7,9],7),(11,[17,15,14,13,16,12,10,18],11),(17,[20,19,17,15,14,13,16,12,10,18,70,71],12),(22,[20,19,17,15,14,13,22,16,12,10,18],13),(25,[20,24,19,17,15,23,14,13,22,16,12,10,18,25,26],13),(100028,[20,19,17,15,23,14,13,22,16,12,10,18,26,24,25],13),(34,[24,15,16,14,20,22,17,13,12,10,18,25,139,140],13),(43,[17,16,15,14,13,12,10,18,19],11),(48,[16,13,12,30,29],11)]
noncomputable def qW:bA:=[(100005,[10,5,7,9],6),(11,[17,15,14,13,16,12,10,18],11),(17,[20,19,17,15,14,13,16,12,10,18,70,71],12),(22,[20,19,17,15,14,13,22,16,12,10,18],13),(25,[20,24,19,17,15,23,14,13,22,16,12,10,18,25,26],13),(100028,[20,19,17,15,23,14,13,22,16,12,10,18,26,24,25],13),(34,[24,15,16,14,20,22,17,13,12,10,18,25,139,140],13),(43,[17,16,15,14,13,12,10,18,19],11),(48,[16,13,12,30,29],11)]
noncomputable def qU:bA:=[(100005,[10,5,7,9],6),(100006,[10,11,5,7,9],7),(11,[17,15,14,13,16,12,10,18],11),(17,[20,19,17,15,14,13,16,12,10,18,70,71],12),(22,[20,19,17,15,14,13,22,16,12,10,18],13),(25,[20,24,19,17,15,23,14,13,22,16,12,10,18,25,26],13),(34,[24,15,16,14,20,22,17,13,12,10,18,25,139,140],13),(43,[17,16,15,14,13,12,10,18,19],11),(48,[16,13,12,30,29],11)]
theorem ac5 (L:List (List Int)) (bU:Bool) (ms:Int) (fr:Int) (tk:List Bool) (bp:Bool):aI cO cJ Tryz.f63.results.toList 2 400 [.code (aj Tryz.f63)] ⟨ay Tryz.f63 [.c (.ai 0 0 L.length bU),.c (.int .i64 ms),.c (.int .i64 fr),.c (.ai 1 0 tk.length bp)],([.cL 0 L none,.aB 3 tk]:Heap cod)⟩=
 (let q0:=List.length L - Int.toNat fr;
 .aa (((0:Int)≤fr∧fr≤Int.ofNat L.length)) (cond (decide (Int.ofNat q0=0)) (.ret (.fin (.c (.int .i64 0)) [])) (.ret (.cut (bu Tryz.f63 5) ⟨bc 205 [(5,.c (.ptr 2 0 0)),(1,.c (.ptr 3 0 0)),(1,.c (.ptr 4 0 0)),(0,.c (.int .i64 (Int.ofNat q0)))],[.cL 0 (L) none,.aB 3 tk,.aF [.int .i64 ms] 3,.aF [.ai 1 0 tk.length bp] 89,.aF [.ai 0 (0+Int.toNat fr) q0 bU] 84]⟩)))):=by kernel_rfl
noncomputable def zC (L:List (List Int)) (bU:Bool) (ms:Int) (fr:Int) (tk:List Bool) (bp:Bool) (n j:Nat) (q:List Int):St cod:=⟨bc 205 [(5,.c (.ptr 2 0 0)),(1,.c (.ptr 3 0 0)),(1,.c (.ptr 4 0 0)),(0,.c (.int .i64 (n:Int)))],([.cL 0 L (some (j,.ai 5 0 q.length false)),.aB 3 tk,.aF [.int .i64 ms] 3,.aF [.ai 1 0 tk.length bp] 89,.aF [.ai 0 fr.toNat n bU] 84,.aB 0 q]:Heap cod)⟩
theorem U8 (L:List (List Int)) (bU:Bool) (ms:Int) (fr:Int) (tk:List Bool) (bp:Bool) (n j:Nat) (q:List Int):aI cO qV Tryz.f63.results.toList 2 400 (bu Tryz.f63 5) (zC L bU ms fr tk bp n j q)=
.aa (((0:Int)≤0∧(0:Int) < Int.ofNat n)) (
.aa ((Int.toNat fr+Int.toNat 0=j∧j < List.length L)) (
.ret (.cut (bu Tryz.f63 6) ⟨bc 204 [(5,.c (.ptr 2 0 0)),(1,.c (.ptr 3 0 0)),(1,.c (.ptr 4 0 0)),(0,.c (.int .i64 (Int.ofNat n))),(0,.c (.ptr 6 0 0))],[.cL 0 (L) (some ((j),.ai 5 0 q.length false)),.aB 3 tk,.aF [.int .i64 ms] 3,.aF [.ai 1 0 tk.length bp] 89,.aF [.ai 0 fr.toNat (n) bU] 84,.aB 0 q,.aF [.int .i64 (Int.ofNat q.length)] 3]⟩))):=by kernel_rfl
noncomputable def zD (L:List (List Int)) (bU:Bool) (ms:Int) (fr:Int) (tk:List Bool) (bp:Bool) (n:Nat) (q:List Int):St cod:=⟨bc 204 [(5,.c (.ptr 2 0 0)),(1,.c (.ptr 3 0 0)),(1,.c (.ptr 4 0 0)),(0,.c (.int .i64 (Int.ofNat n))),(0,.c (.ptr 6 0 0))],([.cL 0 L none,.aB 3 tk,.aF [.int .i64 ms] 3,.aF [.ai 1 0 tk.length bp] 89,.aF [.ai 0 fr.toNat n bU] 84,.aB 0 q,.aF [.int .i64 (List.length tk:Int)] 3]:Heap cod)⟩
theorem U9 (L:List (List Int)) (bU:Bool) (ms:Int) (fr:Int) (tk:List Bool) (bp:Bool) (n:Nat) (q:List Int):aI cO qW Tryz.f63.results.toList 2 400 (bu Tryz.f63 6) (zD L bU ms fr tk bp n q)=
 (let q2:=List.length tk;
 let q0:=Int.ofNat q2+Int.ofNat n+1;
 let q1:=Int.ofNat q2+Int.ofNat n+1≤1000000∧Int.ofNat q2+Int.ofNat n+1=Int.ofNat q2+Int.ofNat n+1;
 let q4:=Int.toNat q0;
 let q3:av cod:=.arr 0 (List.replicate q4 (0:Int)) 3;
 let q5:=Int.ofNat n+1;
 let q6:=Int.ofNat q2+Int.ofNat n;
 .aa (ae q6) (.aa (ae q5) (.aa (((0:Int)≤Int.ofNat n+1∧(Int.ofNat n+1≤1000000∧Int.ofNat n+1=Int.ofNat n+1))) (.aa (ae q0) (.aa (((0:Int)≤Int.ofNat q2+Int.ofNat n+1∧q1)) (.aa (ae q0) (.aa (((0:Int)≤Int.ofNat q2+Int.ofNat n+1∧q1)) (.aa (ae q0) (.aa (((0:Int)≤Int.ofNat q2+Int.ofNat n+1∧q1)) (.ret (.cut (cutAt Tryz.f63 11) ⟨bc 197 [(10,.c (.int .i64 (Int.ofNat n))),(1,.c (.int .i64 q6)),(0,.c (.fn 96 [(6,0,0),(2,0,0),(3,0,0),(4,0,0)])),(0,.c (.ai 7 0 q5.toNat true)),(0,.c (.ai 8 0 q4 true)),(0,.c (.ai 9 0 q4 true)),(0,.c (.ai 10 0 q4 true)),(0,.c (.int .i64 1))],[.cL 0 (L) none,.aB 3 tk,.aF [.int .i64 ms] 3,.aF [.ai 1 0 q2 bp] 89,.aF [.ai 0 fr.toNat (n) bU] 84,.aB 0 q,.aF [.int .i64 (Int.ofNat q2)] 3,.arr 0 (List.replicate q5.toNat (0:Int)) 3,q3,q3,q3]⟩))))))))))):=by kernel_rfl
noncomputable def oG (L:List (List Int)) (bU:Bool) (ms:Int) (fr:Int) (tk:List Bool) (bp:Bool) (n:Nat) (q:List Int) (m i:Nat) (u v row bE:List Int):St cod:=⟨bc 197 [(10,.c (.int .i64 (n:Int))),(1,.c (.int .i64 (m:Int))),(0,.c (.fn 96 [(6,0,0),(2,0,0),(3,0,0),(4,0,0)])),(0,.c (.ai 7 0 (n+1) true)),(0,.c (.ai 8 0 (m+1) true)),(0,.c (.ai 9 0 (m+1) true)),(0,.c (.ai 10 0 (m+1) true)),(0,.c (.int .i64 (i:Int)))],([.cL 0 L none,.aB 3 tk,.aF [.int .i64 ms] 3,.aF [.ai 1 0 tk.length bp] 89,.aF [.ai 0 fr.toNat n bU] 84,.aB 0 q,.aF [.int .i64 (List.length tk:Int)] 3,.arr 0 u 3,.arr 0 v 3,.arr 0 row 3,.arr 0 bE 3]:Heap cod)⟩
theorem Nz (L:List (List Int)) (bU:Bool) (ms:Int) (fr:Int) (tk:List Bool) (bp:Bool) (n:Nat) (q:List Int) (m i:Nat) (u v row bE:List Int):aI cO cJ Tryz.f63.results.toList 2 400 (cutAt Tryz.f63 11) (oG L bU ms fr tk bp n q m i u v row bE)=
 (let q0:=Int.toNat (Int.ofNat m+1);
 let q1:=List.length tk;
 let q2:av cod:=.aF [.ai 0 fr.toNat (n) bU] 84;
 cond (decide (Int.ofNat i≤Int.ofNat n)) (.aa (((0:Int)≤0∧(0:Int) < Int.ofNat (m+1))) (.aa ((0+Int.toNat 0:Nat) < List.length row) (.aa (ae (Int.ofNat m+1)) (.aa (((0:Int)≤Int.ofNat m+1∧(Int.ofNat m+1≤1000000∧Int.ofNat m+1=Int.ofNat m+1))) (.ret (.cut (cutAt Tryz.f63 17) ⟨bc 144 [(10,.c (.int .i64 (Int.ofNat n))),(1,.c (.int .i64 (Int.ofNat m))),(0,.c (.fn 96 [(6,0,0),(2,0,0),(3,0,0),(4,0,0)])),(0,.c (.ai 7 0 (n+1) true)),(0,.c (.ai 8 0 (m+1) true)),(0,.c (.ai 9 0 (m+1) true)),(0,.c (.ai 10 0 (m+1) true)),(0,.c (.int .i64 (Int.ofNat i))),(0,.c (.int .i64 0)),(0,.c (.ai 11 0 q0 true)),(49,.c (.int .i64 (Int.ofNat q0))),(0,.c (.int .i64 0))],[.cL 0 (L) none,.aB 3 tk,.aF [.int .i64 ms] 3,.aF [.ai 1 0 q1 bp] 89,q2,.aB 0 q,.aF [.int .i64 (Int.ofNat q1)] 3,.arr 0 u 3,.arr 0 v 3,.arr 0 (List.set row (0+Int.toNat 0) (Int.ofNat i)) 3,.arr 0 bE 3,.arr 0 (List.replicate q0 (0:Int)) 3]⟩)))))) (.ret (.cut (cutAt Tryz.f63 48) ⟨bc 185 [(12,.c (.int .i64 (Int.ofNat m))),(0,.c (.fn 96 [(6,0,0),(2,0,0),(3,0,0),(4,0,0)])),(2,.c (.ai 9 0 (m+1) true)),(12,.c (.int .i64 0)),(0,.c (.int .i64 1))],[.cL 0 (L) none,.aB 3 tk,.aF [.int .i64 ms] 3,.aF [.ai 1 0 q1 bp] 89,q2,.aB 0 q,.aF [.int .i64 (Int.ofNat q1)] 3,.arr 0 u 3,.arr 0 v 3,.arr 0 row 3,.arr 0 bE 3]⟩))):=by kernel_rfl
noncomputable def B9 (L:List (List Int)) (bU:Bool) (ms:Int) (fr:Int) (tk:List Bool) (bp:Bool) (n:Nat) (q:List Int) (m i:Nat) (u v row bE:List Int) (low:List Int) (k:Nat):St cod:=⟨bc 144 [(10,.c (.int .i64 (n:Int))),(1,.c (.int .i64 (m:Int))),(0,.c (.fn 96 [(6,0,0),(2,0,0),(3,0,0),(4,0,0)])),(0,.c (.ai 7 0 (n+1) true)),(0,.c (.ai 8 0 (m+1) true)),(0,.c (.ai 9 0 (m+1) true)),(0,.c (.ai 10 0 (m+1) true)),(0,.c (.int .i64 (i:Int))),(0,.c (.int .i64 0)),(0,.c (.ai 11 0 (m+1) true)),(49,.c (.int .i64 ((m+1:Nat):Int))),(0,.c (.int .i64 (k:Int)))],([.cL 0 L none,.aB 3 tk,.aF [.int .i64 ms] 3,.aF [.ai 1 0 tk.length bp] 89,.aF [.ai 0 fr.toNat n bU] 84,.aB 0 q,.aF [.int .i64 (List.length tk:Int)] 3,.arr 0 u 3,.arr 0 v 3,.arr 0 row 3,.arr 0 bE 3,.arr 0 low 3]:Heap cod)⟩
theorem NA (L:List (List Int)) (bU:Bool) (ms:Int) (fr:Int) (tk:List Bool) (bp:Bool) (n:Nat) (q:List Int) (m i:Nat) (u v row bE:List Int) (low:List Int) (k:Nat):aI cO cJ Tryz.f63.results.toList 2 400 (cutAt Tryz.f63 17) (B9 L bU ms fr tk bp n q m i u v row bE low k)=
 (let q0:=List.length tk;
 let q1:=Int.ofNat m+1;
 let q2:av cod:=.aF [.ai 0 fr.toNat (n) bU] 84;
 cond (decide (Int.ofNat k < Int.ofNat (m+1))) (.aa (((0:Int)≤Int.ofNat k∧Int.ofNat k < Int.ofNat (m+1))) (.aa (0+Int.toNat (Int.ofNat k) < List.length low) (.aa (ae (Int.ofNat k+1)) (.ret (.cut (cutAt Tryz.f63 17) ⟨bc 144 [(10,.c (.int .i64 (Int.ofNat n))),(1,.c (.int .i64 (Int.ofNat m))),(0,.c (.fn 96 [(6,0,0),(2,0,0),(3,0,0),(4,0,0)])),(0,.c (.ai 7 0 (n+1) true)),(0,.c (.ai 8 0 (m+1) true)),(0,.c (.ai 9 0 (m+1) true)),(0,.c (.ai 10 0 (m+1) true)),(0,.c (.int .i64 (Int.ofNat i))),(0,.c (.int .i64 0)),(0,.c (.ai 11 0 (m+1) true)),(49,.c (.int .i64 (Int.ofNat (m+1)))),(0,.c (.int .i64 (Int.ofNat k+1)))],[.cL 0 (L) none,.aB 3 tk,.aF [.int .i64 ms] 3,.aF [.ai 1 0 q0 bp] 89,q2,.aB 0 q,.aF [.int .i64 (Int.ofNat q0)] 3,.arr 0 u 3,.arr 0 v 3,.arr 0 row 3,.arr 0 bE 3,.arr 0 (List.set low (0+Int.toNat (Int.ofNat k)) 1152921504606846976) 3]⟩))))) (.aa (ae q1) (.aa (((0:Int)≤Int.ofNat m+1∧(Int.ofNat m+1≤1000000∧Int.ofNat m+1=Int.ofNat m+1))) (.ret (.cut (cutAt Tryz.f63 22) ⟨bc 193 [(10,.c (.int .i64 (Int.ofNat n))),(1,.c (.int .i64 (Int.ofNat m))),(0,.c (.fn 96 [(6,0,0),(2,0,0),(3,0,0),(4,0,0)])),(0,.c (.ai 7 0 (n+1) true)),(0,.c (.ai 8 0 (m+1) true)),(0,.c (.ai 9 0 (m+1) true)),(0,.c (.ai 10 0 (m+1) true)),(0,.c (.int .i64 (Int.ofNat i))),(0,.c (.int .i64 0)),(0,.c (.ai 11 0 (m+1) true)),(1,.c (.ai 12 0 q1.toNat true))],[.cL 0 (L) none,.aB 3 tk,.aF [.int .i64 ms] 3,.aF [.ai 1 0 q0 bp] 89,q2,.aB 0 q,.aF [.int .i64 (Int.ofNat q0)] 3,.arr 0 u 3,.arr 0 v 3,.arr 0 row 3,.arr 0 bE 3,.arr 0 low 3,.arr 3 (List.replicate q1.toNat false) 4]⟩))))):=by kernel_rfl
noncomputable def oI (L:List (List Int)) (bU:Bool) (ms:Int) (fr:Int) (tk:List Bool) (bp:Bool) (n:Nat) (q:List Int) (m i:Nat) (u v row bE:List Int) (low:List Int) (used:List Bool) (a:Nat):St cod:=⟨bc 193 [(10,.c (.int .i64 (n:Int))),(1,.c (.int .i64 (m:Int))),(0,.c (.fn 96 [(6,0,0),(2,0,0),(3,0,0),(4,0,0)])),(0,.c (.ai 7 0 (n+1) true)),(0,.c (.ai 8 0 (m+1) true)),(0,.c (.ai 9 0 (m+1) true)),(0,.c (.ai 10 0 (m+1) true)),(0,.c (.int .i64 (i:Int))),(0,.c (.int .i64 (a:Int))),(0,.c (.ai 11 0 (m+1) true)),(1,.c (.ai 12 0 (m+1) true))],([.cL 0 L none,.aB 3 tk,.aF [.int .i64 ms] 3,.aF [.ai 1 0 tk.length bp] 89,.aF [.ai 0 fr.toNat n bU] 84,.aB 0 q,.aF [.int .i64 (List.length tk:Int)] 3,.arr 0 u 3,.arr 0 v 3,.arr 0 row 3,.arr 0 bE 3,.arr 0 low 3,.arr 3 used 4]:Heap cod)⟩
theorem Zi (L:List (List Int)) (bU:Bool) (ms:Int) (fr:Int) (tk:List Bool) (bp:Bool) (n:Nat) (q:List Int) (m i:Nat) (u v row bE:List Int) (low:List Int) (used:List Bool) (a:Nat):aI cO cJ Tryz.f63.results.toList 2 400 (cutAt Tryz.f63 22) (oI L bU ms fr tk bp n q m i u v row bE low used a)=
.aa (((0:Int)≤Int.ofNat a∧Int.ofNat a < Int.ofNat (m+1))) (
.aa (0+Int.toNat (Int.ofNat a) < List.length used) (
.aa (((0:Int)≤Int.ofNat a∧Int.ofNat a < Int.ofNat (m+1))) (
.aa (0+Int.toNat (Int.ofNat a) < List.length row) (
.ret (.cut (cutAt Tryz.f63 25) ⟨bc 189 [(10,.c (.int .i64 (Int.ofNat n))),(1,.c (.int .i64 (Int.ofNat m))),(0,.c (.fn 96 [(6,0,0),(2,0,0),(3,0,0),(4,0,0)])),(0,.c (.ai 7 0 (n+1) true)),(0,.c (.ai 8 0 (m+1) true)),(0,.c (.ai 9 0 (m+1) true)),(0,.c (.ai 10 0 (m+1) true)),(0,.c (.int .i64 (Int.ofNat i))),(0,.c (.int .i64 (Int.ofNat a))),(0,.c (.ai 11 0 (m+1) true)),(1,.c (.ai 12 0 (m+1) true)),(0,.c (.int .i64 (List.getD row (0+Int.toNat (Int.ofNat a)) (cod 0).d))),(0,.c (.int .i64 1152921504606846976)),(0,.c (.int .i64 0)),(0,.c (.int .i64 1))],[.cL 0 (L) none,.aB 3 tk,.aF [.int .i64 ms] 3,.aF [.ai 1 0 tk.length bp] 89,.aF [.ai 0 fr.toNat (n) bU] 84,.aB 0 q,.aF [.int .i64 (Int.ofNat tk.length)] 3,.arr 0 u 3,.arr 0 v 3,.arr 0 row 3,.arr 0 bE 3,.arr 0 low 3,.arr 3 (List.set used (0+Int.toNat (Int.ofNat a)) true) 4]⟩))))):=by kernel_rfl
noncomputable def Ca (L:List (List Int)) (bU:Bool) (ms:Int) (fr:Int) (tk:List Bool) (bp:Bool) (n:Nat) (q:List Int) (m i:Nat) (u v row bE:List Int) (low:List Int) (used:List Bool) (a:Nat) (x delta nx:Int) (k:Nat):St cod:=⟨bc 189 [(10,.c (.int .i64 (n:Int))),(1,.c (.int .i64 (m:Int))),(0,.c (.fn 96 [(6,0,0),(2,0,0),(3,0,0),(4,0,0)])),(0,.c (.ai 7 0 (n+1) true)),(0,.c (.ai 8 0 (m+1) true)),(0,.c (.ai 9 0 (m+1) true)),(0,.c (.ai 10 0 (m+1) true)),(0,.c (.int .i64 (i:Int))),(0,.c (.int .i64 (a:Int))),(0,.c (.ai 11 0 (m+1) true)),(1,.c (.ai 12 0 (m+1) true)),(0,.c (.int .i64 x)),(0,.c (.int .i64 delta)),(0,.c (.int .i64 nx)),(0,.c (.int .i64 (k:Int)))],([.cL 0 L none,.aB 3 tk,.aF [.int .i64 ms] 3,.aF [.ai 1 0 tk.length bp] 89,.aF [.ai 0 fr.toNat n bU] 84,.aB 0 q,.aF [.int .i64 (List.length tk:Int)] 3,.arr 0 u 3,.arr 0 v 3,.arr 0 row 3,.arr 0 bE 3,.arr 0 low 3,.arr 3 used 4]:Heap cod)⟩
theorem NB (L:List (List Int)) (bU:Bool) (ms:Int) (fr:Int) (tk:List Bool) (bp:Bool) (n:Nat) (q:List Int) (m i:Nat) (u v row bE:List Int) (low:List Int) (used:List Bool) (a:Nat) (x delta nx:Int) (k:Nat):aI cO cJ Tryz.f63.results.toList 2 400 (cutAt Tryz.f63 25) (Ca L bU ms fr tk bp n q m i u v row bE low used a x delta nx k)=
 (let q0:av cod:=.aF [.int .i64 (Int.ofNat tk.length)] 3;
 let q1:av cod:=.aF [.ai 1 0 tk.length bp] 89;
 let q2:av cod:=.aF [.ai 0 fr.toNat (n) bU] 84;
 let q3:av cod:=.aF [.int .i64 ms] 3;
 cond (decide (Int.ofNat k≤Int.ofNat m)) (.aa (((0:Int)≤Int.ofNat k∧Int.ofNat k < Int.ofNat (m+1))) (.aa (0+Int.toNat (Int.ofNat k) < List.length used) (cond (List.getD used (0+Int.toNat (Int.ofNat k)) (cod 3).d) (.aa (ae (Int.ofNat k+1)) (.ret (.cut (cutAt Tryz.f63 25) ⟨bc 189 [(10,.c (.int .i64 (Int.ofNat n))),(1,.c (.int .i64 (Int.ofNat m))),(0,.c (.fn 96 [(6,0,0),(2,0,0),(3,0,0),(4,0,0)])),(0,.c (.ai 7 0 (n+1) true)),(0,.c (.ai 8 0 (m+1) true)),(0,.c (.ai 9 0 (m+1) true)),(0,.c (.ai 10 0 (m+1) true)),(0,.c (.int .i64 (Int.ofNat i))),(0,.c (.int .i64 (Int.ofNat a))),(0,.c (.ai 11 0 (m+1) true)),(1,.c (.ai 12 0 (m+1) true)),(0,.c (.int .i64 x)),(0,.c (.int .i64 delta)),(0,.c (.int .i64 nx)),(0,.c (.int .i64 (Int.ofNat k+1)))],[.cL 0 (L) none,.aB 3 tk,q3,q1,q2,.aB 0 q,q0,.arr 0 u 3,.arr 0 v 3,.arr 0 row 3,.arr 0 bE 3,.arr 0 low 3,.arr 3 used 4]⟩))) (.ret (.cut (bu Tryz.f63 28) ⟨bc 189 [(10,.c (.int .i64 (Int.ofNat n))),(1,.c (.int .i64 (Int.ofNat m))),(0,.c (.fn 96 [(6,0,0),(2,0,0),(3,0,0),(4,0,0)])),(0,.c (.ai 7 0 (n+1) true)),(0,.c (.ai 8 0 (m+1) true)),(0,.c (.ai 9 0 (m+1) true)),(0,.c (.ai 10 0 (m+1) true)),(0,.c (.int .i64 (Int.ofNat i))),(0,.c (.int .i64 (Int.ofNat a))),(0,.c (.ai 11 0 (m+1) true)),(1,.c (.ai 12 0 (m+1) true)),(0,.c (.int .i64 x)),(0,.c (.int .i64 delta)),(0,.c (.int .i64 nx)),(0,.c (.int .i64 (Int.ofNat k)))],[.cL 0 (L) none,.aB 3 tk,q3,q1,q2,.aB 0 q,q0,.arr 0 u 3,.arr 0 v 3,.arr 0 row 3,.arr 0 bE 3,.arr 0 low 3,.arr 3 used 4]⟩))))) (.ret (.cut (cutAt Tryz.f63 34) ⟨bc 75 [(10,.c (.int .i64 (Int.ofNat n))),(1,.c (.int .i64 (Int.ofNat m))),(0,.c (.fn 96 [(6,0,0),(2,0,0),(3,0,0),(4,0,0)])),(0,.c (.ai 7 0 (n+1) true)),(0,.c (.ai 8 0 (m+1) true)),(0,.c (.ai 9 0 (m+1) true)),(0,.c (.ai 10 0 (m+1) true)),(0,.c (.int .i64 (Int.ofNat i))),(1,.c (.ai 11 0 (m+1) true)),(1,.c (.ai 12 0 (m+1) true)),(1,.c (.int .i64 delta)),(0,.c (.int .i64 nx)),(113,.c (.int .i64 (Int.ofNat (m+1)))),(0,.c (.int .i64 0))],[.cL 0 (L) none,.aB 3 tk,q3,q1,q2,.aB 0 q,q0,.arr 0 u 3,.arr 0 v 3,.arr 0 row 3,.arr 0 bE 3,.arr 0 low 3,.arr 3 used 4]⟩))):=by kernel_rfl
noncomputable def Mo (L:List (List Int)) (bU:Bool) (ms:Int) (fr:Int) (tk:List Bool) (bp:Bool) (n:Nat) (q:List Int) (m i:Nat) (u v row bE:List Int) (low:List Int) (used:List Bool) (a:Nat) (x delta nx:Int) (k:Nat):St cod:=⟨bc 189 [(10,.c (.int .i64 (n:Int))),(1,.c (.int .i64 (m:Int))),(0,.c (.fn 96 [(6,0,0),(2,0,0),(3,0,0),(4,0,0)])),(0,.c (.ai 7 0 (n+1) true)),(0,.c (.ai 8 0 (m+1) true)),(0,.c (.ai 9 0 (m+1) true)),(0,.c (.ai 10 0 (m+1) true)),(0,.c (.int .i64 (i:Int))),(0,.c (.int .i64 (a:Int))),(0,.c (.ai 11 0 (m+1) true)),(1,.c (.ai 12 0 (m+1) true)),(0,.c (.int .i64 x)),(0,.c (.int .i64 delta)),(0,.c (.int .i64 nx)),(0,.c (.int .i64 (k:Int)))],([.cL 0 L none,.aB 3 tk,.aF [.int .i64 ms] 3,.aF [.ai 1 0 tk.length bp] 89,.aF [.ai 0 fr.toNat n bU] 84,.aB 0 q,.aF [.int .i64 (List.length tk:Int)] 3,.arr 0 u 3,.arr 0 v 3,.arr 0 row 3,.arr 0 bE 3,.arr 0 low 3,.arr 3 used 4]:Heap cod)⟩
noncomputable def ul (L:List (List Int)) (bU:Bool) (ms:Int) (fr:Int) (tk:List Bool) (bp:Bool) (n:Nat) (q:List Int) (m i:Nat) (u v row bE:List Int) (low:List Int) (used:List Bool) (delta nx:Int) (k:Nat):St cod:=⟨bc 75 [(10,.c (.int .i64 (n:Int))),(1,.c (.int .i64 (m:Int))),(0,.c (.fn 96 [(6,0,0),(2,0,0),(3,0,0),(4,0,0)])),(0,.c (.ai 7 0 (n+1) true)),(0,.c (.ai 8 0 (m+1) true)),(0,.c (.ai 9 0 (m+1) true)),(0,.c (.ai 10 0 (m+1) true)),(0,.c (.int .i64 (i:Int))),(1,.c (.ai 11 0 (m+1) true)),(1,.c (.ai 12 0 (m+1) true)),(1,.c (.int .i64 delta)),(0,.c (.int .i64 nx)),(113,.c (.int .i64 ((m+1:Nat):Int))),(0,.c (.int .i64 (k:Int)))],([.cL 0 L none,.aB 3 tk,.aF [.int .i64 ms] 3,.aF [.ai 1 0 tk.length bp] 89,.aF [.ai 0 fr.toNat n bU] 84,.aB 0 q,.aF [.int .i64 (List.length tk:Int)] 3,.arr 0 u 3,.arr 0 v 3,.arr 0 row 3,.arr 0 bE 3,.arr 0 low 3,.arr 3 used 4]:Heap cod)⟩
theorem NC (L:List (List Int)) (bU:Bool) (ms:Int) (fr:Int) (tk:List Bool) (bp:Bool) (n:Nat) (q:List Int) (m i:Nat) (u v row bE:List Int) (low:List Int) (used:List Bool) (delta nx:Int) (k:Nat):aI cO cJ Tryz.f63.results.toList 2 400 (cutAt Tryz.f63 34) (ul L bU ms fr tk bp n q m i u v row bE low used delta nx k)=
 (let q0:=List.getD row (0+Int.toNat (Int.ofNat k)) (cod 0).d;
 let q1:av cod:=.aF [.int .i64 (Int.ofNat tk.length)] 3;
 let q2:av cod:=.aF [.ai 1 0 tk.length bp] 89;
 let q3:av cod:=.aF [.ai 0 fr.toNat (n) bU] 84;
 let q4:=List.getD low (0+Int.toNat (Int.ofNat k)) (cod 0).d - delta;
 let q5:=List.getD v (0+Int.toNat (Int.ofNat k)) (cod 0).d - delta;
 let q6:av cod:=.aF [.int .i64 ms] 3;
 let q7:=List.getD u (0+Int.toNat q0) (cod 0).d+delta;
 let q8:=Int.ofNat k+1;
 cond (decide (Int.ofNat k < Int.ofNat (m+1))) (.aa (((0:Int)≤Int.ofNat k∧Int.ofNat k < Int.ofNat (m+1))) (.aa (0+Int.toNat (Int.ofNat k) < List.length used) (cond (List.getD used (0+Int.toNat (Int.ofNat k)) (cod 3).d) (.aa (((0:Int)≤Int.ofNat k∧Int.ofNat k < Int.ofNat (m+1))) (.aa (0+Int.toNat (Int.ofNat k) < List.length row) (.aa (((0:Int)≤List.getD row (0+Int.toNat (Int.ofNat k)) (cod 0).d∧List.getD row (0+Int.toNat (Int.ofNat k)) (cod 0).d < Int.ofNat (n+1))) (.aa (0+Int.toNat q0 < List.length u) (.aa (ae q7) (.aa (((0:Int)≤List.getD row (0+Int.toNat (Int.ofNat k)) (cod 0).d∧List.getD row (0+Int.toNat (Int.ofNat k)) (cod 0).d < Int.ofNat (n+1))) (.aa (0+Int.toNat q0 < List.length u) (.aa (((0:Int)≤Int.ofNat k∧Int.ofNat k < Int.ofNat (m+1))) (.aa (0+Int.toNat (Int.ofNat k) < List.length v) (.aa (ae q5) (.aa (((0:Int)≤Int.ofNat k∧Int.ofNat k < Int.ofNat (m+1))) (.aa (0+Int.toNat (Int.ofNat k) < List.length v) (.aa (ae q8) (.ret (.cut (cutAt Tryz.f63 34) ⟨bc 75 [(10,.c (.int .i64 (Int.ofNat n))),(1,.c (.int .i64 (Int.ofNat m))),(0,.c (.fn 96 [(6,0,0),(2,0,0),(3,0,0),(4,0,0)])),(0,.c (.ai 7 0 (n+1) true)),(0,.c (.ai 8 0 (m+1) true)),(0,.c (.ai 9 0 (m+1) true)),(0,.c (.ai 10 0 (m+1) true)),(0,.c (.int .i64 (Int.ofNat i))),(1,.c (.ai 11 0 (m+1) true)),(1,.c (.ai 12 0 (m+1) true)),(1,.c (.int .i64 delta)),(0,.c (.int .i64 nx)),(113,.c (.int .i64 (Int.ofNat (m+1)))),(0,.c (.int .i64 q8))],[.cL 0 (L) none,.aB 3 tk,q6,q2,q3,.aB 0 q,q1,.arr 0 (List.set u (0+Int.toNat q0) q7) 3,.arr 0 (List.set v (0+Int.toNat (Int.ofNat k)) q5) 3,.arr 0 row 3,.arr 0 bE 3,.arr 0 low 3,.arr 3 used 4]⟩))))))))))))))) (.aa (((0:Int)≤Int.ofNat k∧Int.ofNat k < Int.ofNat (m+1))) (.aa (0+Int.toNat (Int.ofNat k) < List.length low) (.aa (ae q4) (.aa (((0:Int)≤Int.ofNat k∧Int.ofNat k < Int.ofNat (m+1))) (.aa (0+Int.toNat (Int.ofNat k) < List.length low) (.aa (ae q8) (.ret (.cut (cutAt Tryz.f63 34) ⟨bc 75 [(10,.c (.int .i64 (Int.ofNat n))),(1,.c (.int .i64 (Int.ofNat m))),(0,.c (.fn 96 [(6,0,0),(2,0,0),(3,0,0),(4,0,0)])),(0,.c (.ai 7 0 (n+1) true)),(0,.c (.ai 8 0 (m+1) true)),(0,.c (.ai 9 0 (m+1) true)),(0,.c (.ai 10 0 (m+1) true)),(0,.c (.int .i64 (Int.ofNat i))),(1,.c (.ai 11 0 (m+1) true)),(1,.c (.ai 12 0 (m+1) true)),(1,.c (.int .i64 delta)),(0,.c (.int .i64 nx)),(113,.c (.int .i64 (Int.ofNat (m+1)))),(0,.c (.int .i64 q8))],[.cL 0 (L) none,.aB 3 tk,q6,q2,q3,.aB 0 q,q1,.arr 0 u 3,.arr 0 v 3,.arr 0 row 3,.arr 0 bE 3,.arr 0 (List.set low (0+Int.toNat (Int.ofNat k)) q4) 3,.arr 3 used 4]⟩))))))))))) (.aa (((0:Int)≤nx∧nx < Int.ofNat (m+1))) (.aa (0+Int.toNat nx < List.length row) (cond (decide (List.getD row (0+Int.toNat nx) (cod 0).d=0)) (.ret (.cut (cutAt Tryz.f63 43) ⟨bc 196 [(10,.c (.int .i64 (Int.ofNat n))),(1,.c (.int .i64 (Int.ofNat m))),(0,.c (.fn 96 [(6,0,0),(2,0,0),(3,0,0),(4,0,0)])),(0,.c (.ai 7 0 (n+1) true)),(0,.c (.ai 8 0 (m+1) true)),(0,.c (.ai 9 0 (m+1) true)),(0,.c (.ai 10 0 (m+1) true)),(0,.c (.int .i64 (Int.ofNat i))),(0,.c (.int .i64 nx))],[.cL 0 (L) none,.aB 3 tk,q6,q2,q3,.aB 0 q,q1,.arr 0 u 3,.arr 0 v 3,.arr 0 row 3,.arr 0 bE 3]⟩)) (.ret (.cut (cutAt Tryz.f63 22) ⟨bc 193 [(10,.c (.int .i64 (Int.ofNat n))),(1,.c (.int .i64 (Int.ofNat m))),(0,.c (.fn 96 [(6,0,0),(2,0,0),(3,0,0),(4,0,0)])),(0,.c (.ai 7 0 (n+1) true)),(0,.c (.ai 8 0 (m+1) true)),(0,.c (.ai 9 0 (m+1) true)),(0,.c (.ai 10 0 (m+1) true)),(0,.c (.int .i64 (Int.ofNat i))),(0,.c (.int .i64 nx)),(0,.c (.ai 11 0 (m+1) true)),(1,.c (.ai 12 0 (m+1) true))],[.cL 0 (L) none,.aB 3 tk,q6,q2,q3,.aB 0 q,q1,.arr 0 u 3,.arr 0 v 3,.arr 0 row 3,.arr 0 bE 3,.arr 0 low 3,.arr 3 used 4]⟩)))))):=by kernel_rfl
noncomputable def uo (L:List (List Int)) (bU:Bool) (ms:Int) (fr:Int) (tk:List Bool) (bp:Bool) (n:Nat) (q:List Int) (m i:Nat) (u v row bE:List Int) (a:Nat):St cod:=⟨bc 196 [(10,.c (.int .i64 (n:Int))),(1,.c (.int .i64 (m:Int))),(0,.c (.fn 96 [(6,0,0),(2,0,0),(3,0,0),(4,0,0)])),(0,.c (.ai 7 0 (n+1) true)),(0,.c (.ai 8 0 (m+1) true)),(0,.c (.ai 9 0 (m+1) true)),(0,.c (.ai 10 0 (m+1) true)),(0,.c (.int .i64 (i:Int))),(0,.c (.int .i64 (a:Int)))],([.cL 0 L none,.aB 3 tk,.aF [.int .i64 ms] 3,.aF [.ai 1 0 tk.length bp] 89,.aF [.ai 0 fr.toNat n bU] 84,.aB 0 q,.aF [.int .i64 (List.length tk:Int)] 3,.arr 0 u 3,.arr 0 v 3,.arr 0 row 3,.arr 0 bE 3]:Heap cod)⟩
theorem Zj (L:List (List Int)) (bU:Bool) (ms:Int) (fr:Int) (tk:List Bool) (bp:Bool) (n:Nat) (q:List Int) (m i:Nat) (u v row bE:List Int) (a:Nat):aI cO cJ Tryz.f63.results.toList 2 400 (cutAt Tryz.f63 43) (uo L bU ms fr tk bp n q m i u v row bE a)=
 (let q0:=List.getD bE (0+Int.toNat (Int.ofNat a)) (cod 0).d;
 let q1:=List.length tk;
 let q2:av cod:=.aF [.ai 0 fr.toNat (n) bU] 84;
 cond (!decide (Int.ofNat a=0)) (.aa (((0:Int)≤Int.ofNat a∧Int.ofNat a < Int.ofNat (m+1))) (.aa (0+Int.toNat (Int.ofNat a) < List.length bE) (.aa (((0:Int)≤List.getD bE (0+Int.toNat (Int.ofNat a)) (cod 0).d∧List.getD bE (0+Int.toNat (Int.ofNat a)) (cod 0).d < Int.ofNat (m+1))) (.aa (0+Int.toNat q0 < List.length row) (.aa (((0:Int)≤Int.ofNat a∧Int.ofNat a < Int.ofNat (m+1))) (.aa (0+Int.toNat (Int.ofNat a) < List.length row) (.aa (((0:Int)≤Int.ofNat a∧Int.ofNat a < Int.ofNat (m+1))) (.aa (0+Int.toNat (Int.ofNat a) < List.length bE) (.ret (.cut (cutAt Tryz.f63 43) ⟨bc 196 [(10,.c (.int .i64 (Int.ofNat n))),(1,.c (.int .i64 (Int.ofNat m))),(0,.c (.fn 96 [(6,0,0),(2,0,0),(3,0,0),(4,0,0)])),(0,.c (.ai 7 0 (n+1) true)),(0,.c (.ai 8 0 (m+1) true)),(0,.c (.ai 9 0 (m+1) true)),(0,.c (.ai 10 0 (m+1) true)),(0,.c (.int .i64 (Int.ofNat i))),(0,.c (.int .i64 q0))],[.cL 0 (L) none,.aB 3 tk,.aF [.int .i64 ms] 3,.aF [.ai 1 0 q1 bp] 89,q2,.aB 0 q,.aF [.int .i64 (Int.ofNat q1)] 3,.arr 0 u 3,.arr 0 v 3,.arr 0 (List.set row (0+Int.toNat (Int.ofNat a)) (List.getD row (0+Int.toNat q0) (cod 0).d)) 3,.arr 0 bE 3]⟩)))))))))) (.aa (ae (Int.ofNat i+1)) (.ret (.cut (cutAt Tryz.f63 11) ⟨bc 197 [(10,.c (.int .i64 (Int.ofNat n))),(1,.c (.int .i64 (Int.ofNat m))),(0,.c (.fn 96 [(6,0,0),(2,0,0),(3,0,0),(4,0,0)])),(0,.c (.ai 7 0 (n+1) true)),(0,.c (.ai 8 0 (m+1) true)),(0,.c (.ai 9 0 (m+1) true)),(0,.c (.ai 10 0 (m+1) true)),(0,.c (.int .i64 (Int.ofNat i+1)))],[.cL 0 (L) none,.aB 3 tk,.aF [.int .i64 ms] 3,.aF [.ai 1 0 q1 bp] 89,q2,.aB 0 q,.aF [.int .i64 (Int.ofNat q1)] 3,.arr 0 u 3,.arr 0 v 3,.arr 0 row 3,.arr 0 bE 3]⟩)))):=by kernel_rfl
noncomputable def Cb (L:List (List Int)) (bU:Bool) (ms:Int) (fr:Int) (tk:List Bool) (bp:Bool) (n:Nat) (q:List Int) (m _:Nat) (u v row bE:List Int) (k:Nat) (sum:Int):St cod:=⟨bc 185 [(12,.c (.int .i64 (m:Int))),(0,.c (.fn 96 [(6,0,0),(2,0,0),(3,0,0),(4,0,0)])),(2,.c (.ai 9 0 (m+1) true)),(12,.c (.int .i64 sum)),(0,.c (.int .i64 (k:Int)))],([.cL 0 L none,.aB 3 tk,.aF [.int .i64 ms] 3,.aF [.ai 1 0 tk.length bp] 89,.aF [.ai 0 fr.toNat n bU] 84,.aB 0 q,.aF [.int .i64 (List.length tk:Int)] 3,.arr 0 u 3,.arr 0 v 3,.arr 0 row 3,.arr 0 bE 3]:Heap cod)⟩
theorem ND (L:List (List Int)) (bU:Bool) (ms:Int) (fr:Int) (tk:List Bool) (bp:Bool) (n:Nat) (q:List Int) (m i:Nat) (u v row bE:List Int) (k:Nat) (sum:Int):aI cO cJ Tryz.f63.results.toList 2 400 (cutAt Tryz.f63 48) (Cb L bU ms fr tk bp n q m i u v row bE k sum)=
 (let q0:=List.getD row (0+Int.toNat (Int.ofNat k)) (cod 0).d - 1;
 let q1:=List.length tk;
 let q2:=Int.ofNat k+1;
 let q3:=List.take n (List.drop fr.toNat L);
 let q4:=Int.ofNat k - 1;
 let q5:av cod:=.aF [.ai 0 fr.toNat (n) bU] 84;
 cond (decide (Int.ofNat k≤Int.ofNat m)) (.aa (((0:Int)≤Int.ofNat k∧Int.ofNat k < Int.ofNat (m+1))) (.aa (0+Int.toNat (Int.ofNat k) < List.length row) (cond (decide (0 < List.getD row (0+Int.toNat (Int.ofNat k)) (cod 0).d)) (.aa (((0:Int)≤Int.ofNat k∧Int.ofNat k < Int.ofNat (m+1))) (.aa (0+Int.toNat (Int.ofNat k) < List.length row) (.aa (ae q0) (.aa (ae q4) (.aa (((0=0∧List.length tk=List.length tk)∧(Int.toNat fr+n≤List.length L∧((Int.ofNat q1=Int.ofNat q1∧List.length tk≤32)∧(((0:Int)≤Int.ofNat k - 1∧Int.ofNat k - 1≤100)∧(((0:Int)≤List.getD row (0+Int.toNat (Int.ofNat k)) (cod 0).d - 1∧(List.getD row (0+Int.toNat (Int.ofNat k)) (cod 0).d - 1 < Int.ofNat n∧n≤32))∧F.fg L tk)))))) (.aa (ae (sum+F.Ak q3 q1 ms tk q0.toNat q4.toNat)) (.aa (ae q2) (.ret (.cut (cutAt Tryz.f63 48) ⟨bc 185 [(12,.c (.int .i64 (Int.ofNat m))),(0,.c (.fn 96 [(6,0,0),(2,0,0),(3,0,0),(4,0,0)])),(2,.c (.ai 9 0 (m+1) true)),(12,.c (.int .i64 (sum+F.Ak q3 q1 ms tk q0.toNat q4.toNat))),(0,.c (.int .i64 q2))],[.cL 0 (L) none,.aB 3 tk,.aF [.int .i64 ms] 3,.aF [.ai 1 0 q1 bp] 89,q5,.aB 0 q,.aF [.int .i64 (Int.ofNat q1)] 3,.arr 0 u 3,.arr 0 v 3,.arr 0 row 3,.arr 0 bE 3]⟩))))))))) (.aa (ae q2) (.ret (.cut (cutAt Tryz.f63 48) ⟨bc 185 [(12,.c (.int .i64 (Int.ofNat m))),(0,.c (.fn 96 [(6,0,0),(2,0,0),(3,0,0),(4,0,0)])),(2,.c (.ai 9 0 (m+1) true)),(12,.c (.int .i64 sum)),(0,.c (.int .i64 q2))],[.cL 0 (L) none,.aB 3 tk,.aF [.int .i64 ms] 3,.aF [.ai 1 0 q1 bp] 89,q5,.aB 0 q,.aF [.int .i64 (Int.ofNat q1)] 3,.arr 0 u 3,.arr 0 v 3,.arr 0 row 3,.arr 0 bE 3]⟩)))))) (.ret (.fin (.c (.int .i64 sum)) []))):=by kernel_rfl
theorem Zg (L:List (List Int)) (bU:Bool) (ms fr:Int) (tk:List Bool) (bp:Bool) (n:Nat) (q:List Int) (m i:Nat) (u v row bE low:List Int) (used:List Bool) (a:Nat) (x delta nx:Int) (k:Nat):((lT cO R28.toList (Mo L bU ms fr tk bp n q m i u v row bE low used a x delta nx k)).bind fun s=>aI cO qU Tryz.f63.results.toList 2 400 (bu Tryz.f63 28).tail s)=
 (let q2:=List.length tk;
 let q3:=List.take n (List.drop fr.toNat L);
 let q4:=Int.toNat (Int.ofNat k - 1);
 let q5:=Int.ofNat k+1;
 let q6:av cod:=.aF [.ai 0 fr.toNat (n) bU] 84;
 let q7:=Int.toNat (x - 1);
 let q0:=F.Ak q3 q2 ms tk q7 q4 - List.getD u (0+Int.toNat x) (cod 0).d - List.getD v (0+Int.toNat (Int.ofNat k)) (cod 0).d;
 let q1:=List.set low (0+Int.toNat (Int.ofNat k)) (F.Ak q3 q2 ms tk q7 q4 - List.getD u (0+Int.toNat x) (cod 0).d - List.getD v (0+Int.toNat (Int.ofNat k)) (cod 0).d);
 let q8:av cod:=.aF [.int .i64 (Int.ofNat q2)] 3;
 let q9:av cod:=.aF [.ai 1 0 q2 bp] 89;
 let wg:av cod:=.arr 0 (List.set bE (0+Int.toNat (Int.ofNat k)) (Int.ofNat a)) 3;
 let po:av cod:=.arr 0 (List.set low (0+Int.toNat (Int.ofNat k)) q0) 3;
 let vH:av cod:=.aF [.int .i64 ms] 3;
 .aa (ae (x - 1)) (.aa (ae (Int.ofNat k - 1)) (.aa (((0=0∧List.length tk=List.length tk)∧(Int.toNat fr+n≤List.length L∧((Int.ofNat q2=Int.ofNat q2∧List.length tk≤32)∧(((0:Int)≤Int.ofNat k - 1∧Int.ofNat k - 1≤100)∧(((0:Int)≤x - 1∧(x - 1 < Int.ofNat n∧n≤32))∧F.fg L tk)))))) (.aa (((0:Int)≤x∧x < Int.ofNat (n+1))) (.aa (0+Int.toNat x < List.length u) (.aa (ae (F.Ak q3 q2 ms tk q7 q4 - List.getD u (0+Int.toNat x) (cod 0).d)) (.aa (((0:Int)≤Int.ofNat k∧Int.ofNat k < Int.ofNat (m+1))) (.aa (0+Int.toNat (Int.ofNat k) < List.length v) (.aa (ae q0) (.aa (((0:Int)≤Int.ofNat k∧Int.ofNat k < Int.ofNat (m+1))) (.aa (0+Int.toNat (Int.ofNat k) < List.length low) (cond (decide (F.Ak q3 q2 ms tk q7 q4 - List.getD u (0+Int.toNat x) (cod 0).d - List.getD v (0+Int.toNat (Int.ofNat k)) (cod 0).d < List.getD low (0+Int.toNat (Int.ofNat k)) (cod 0).d)) (.aa (((0:Int)≤Int.ofNat k∧Int.ofNat k < Int.ofNat (m+1))) (.aa (0+Int.toNat (Int.ofNat k) < List.length low) (.aa (((0:Int)≤Int.ofNat k∧Int.ofNat k < Int.ofNat (m+1))) (.aa (0+Int.toNat (Int.ofNat k) < List.length bE) (.aa (((0:Int)≤Int.ofNat k∧Int.ofNat k < Int.ofNat (m+1))) (.aa (0+Int.toNat (Int.ofNat k) < List.length q1) (cond (decide (List.getD (List.set low (0+Int.toNat (Int.ofNat k)) (F.Ak q3 q2 ms tk q7 q4 - List.getD u (0+Int.toNat x) (cod 0).d - List.getD v (0+Int.toNat (Int.ofNat k)) (cod 0).d)) (0+Int.toNat (Int.ofNat k)) (cod 0).d < delta)) (.aa (((0:Int)≤Int.ofNat k∧Int.ofNat k < Int.ofNat (m+1))) (.aa (0+Int.toNat (Int.ofNat k) < List.length q1) (.aa (ae q5) (.ret (.cut (cutAt Tryz.f63 25) ⟨bc 189 [(10,.c (.int .i64 (Int.ofNat n))),(1,.c (.int .i64 (Int.ofNat m))),(0,.c (.fn 96 [(6,0,0),(2,0,0),(3,0,0),(4,0,0)])),(0,.c (.ai 7 0 (n+1) true)),(0,.c (.ai 8 0 (m+1) true)),(0,.c (.ai 9 0 (m+1) true)),(0,.c (.ai 10 0 (m+1) true)),(0,.c (.int .i64 (Int.ofNat i))),(0,.c (.int .i64 (Int.ofNat a))),(0,.c (.ai 11 0 (m+1) true)),(1,.c (.ai 12 0 (m+1) true)),(0,.c (.int .i64 x)),(0,.c (.int .i64 (List.getD (List.set low (0+Int.toNat (Int.ofNat k)) (F.Ak q3 q2 ms tk q7 q4 - List.getD u (0+Int.toNat x) (cod 0).d - List.getD v (0+Int.toNat (Int.ofNat k)) (cod 0).d)) (0+Int.toNat (Int.ofNat k)) (cod 0).d))),(0,.c (.int .i64 (Int.ofNat k))),(0,.c (.int .i64 q5))],[.cL 0 (L) none,.aB 3 tk,vH,q9,q6,.aB 0 q,q8,.arr 0 u 3,.arr 0 v 3,.arr 0 row 3,wg,po,.arr 3 used 4]⟩))))) (.aa (ae q5) (.ret (.cut (cutAt Tryz.f63 25) ⟨bc 189 [(10,.c (.int .i64 (Int.ofNat n))),(1,.c (.int .i64 (Int.ofNat m))),(0,.c (.fn 96 [(6,0,0),(2,0,0),(3,0,0),(4,0,0)])),(0,.c (.ai 7 0 (n+1) true)),(0,.c (.ai 8 0 (m+1) true)),(0,.c (.ai 9 0 (m+1) true)),(0,.c (.ai 10 0 (m+1) true)),(0,.c (.int .i64 (Int.ofNat i))),(0,.c (.int .i64 (Int.ofNat a))),(0,.c (.ai 11 0 (m+1) true)),(1,.c (.ai 12 0 (m+1) true)),(0,.c (.int .i64 x)),(0,.c (.int .i64 delta)),(0,.c (.int .i64 nx)),(0,.c (.int .i64 q5))],[.cL 0 (L) none,.aB 3 tk,vH,q9,q6,.aB 0 q,q8,.arr 0 u 3,.arr 0 v 3,.arr 0 row 3,wg,po,.arr 3 used 4]⟩)))))))))) (.aa (((0:Int)≤Int.ofNat k∧Int.ofNat k < Int.ofNat (m+1))) (.aa (0+Int.toNat (Int.ofNat k) < List.length low) (cond (decide (List.getD low (0+Int.toNat (Int.ofNat k)) (cod 0).d < delta)) (.aa (((0:Int)≤Int.ofNat k∧Int.ofNat k < Int.ofNat (m+1))) (.aa (0+Int.toNat (Int.ofNat k) < List.length low) (.aa (ae q5) (.ret (.cut (cutAt Tryz.f63 25) ⟨bc 189 [(10,.c (.int .i64 (Int.ofNat n))),(1,.c (.int .i64 (Int.ofNat m))),(0,.c (.fn 96 [(6,0,0),(2,0,0),(3,0,0),(4,0,0)])),(0,.c (.ai 7 0 (n+1) true)),(0,.c (.ai 8 0 (m+1) true)),(0,.c (.ai 9 0 (m+1) true)),(0,.c (.ai 10 0 (m+1) true)),(0,.c (.int .i64 (Int.ofNat i))),(0,.c (.int .i64 (Int.ofNat a))),(0,.c (.ai 11 0 (m+1) true)),(1,.c (.ai 12 0 (m+1) true)),(0,.c (.int .i64 x)),(0,.c (.int .i64 (List.getD low (0+Int.toNat (Int.ofNat k)) (cod 0).d))),(0,.c (.int .i64 (Int.ofNat k))),(0,.c (.int .i64 q5))],[.cL 0 (L) none,.aB 3 tk,vH,q9,q6,.aB 0 q,q8,.arr 0 u 3,.arr 0 v 3,.arr 0 row 3,.arr 0 bE 3,.arr 0 low 3,.arr 3 used 4]⟩))))) (.aa (ae q5) (.ret (.cut (cutAt Tryz.f63 25) ⟨bc 189 [(10,.c (.int .i64 (Int.ofNat n))),(1,.c (.int .i64 (Int.ofNat m))),(0,.c (.fn 96 [(6,0,0),(2,0,0),(3,0,0),(4,0,0)])),(0,.c (.ai 7 0 (n+1) true)),(0,.c (.ai 8 0 (m+1) true)),(0,.c (.ai 9 0 (m+1) true)),(0,.c (.ai 10 0 (m+1) true)),(0,.c (.int .i64 (Int.ofNat i))),(0,.c (.int .i64 (Int.ofNat a))),(0,.c (.ai 11 0 (m+1) true)),(1,.c (.ai 12 0 (m+1) true)),(0,.c (.int .i64 x)),(0,.c (.int .i64 delta)),(0,.c (.int .i64 nx)),(0,.c (.int .i64 q5))],[.cL 0 (L) none,.aB 3 tk,vH,q9,q6,.aB 0 q,q8,.arr 0 u 3,.arr 0 v 3,.arr 0 row 3,.arr 0 bE 3,.arr 0 low 3,.arr 3 used 4]⟩)))))))))))))))))):=by kernel_rfl
theorem N9 {f:Nat→Int} {B:Int}:∀n,(∀k,1≤k→k≤n→0≤f k∧f k≤B)→0≤F.bT f n∧F.bT f n≤n*B
 | 0,_=>by show (0:Int)≤0∧(0:Int)≤((0:Nat):Int)*B;simp
 | n+1,h=>by
   have a:=N9 n (fun k h1 h2=>h k h1 (by omega));have b:=h (n+1) (by omega) (by omega);have e:((n+1:Nat):Int)*B=n*B+B:=by rw [Int.natCast_succ,Int.add_mul,Int.one_mul]
   rw [e];unfold F.bT;omega
theorem ag1 (L:List (List Int)) (bU:Bool) (ms fr:Int) (tk:List Bool) (bp:Bool) (n:Nat) (q:List Int) (m:Nat) (b0:aC) (hb:b0.n=2) (R:Int) (hn:1≤n∧n≤20) (hm:m=tk.length+n) (sq:tk.length≤32) (hr:F.fg L tk) (mq:fr.toNat+n≤L.length) (hC:∀x k,1≤x→x≤n→1≤k→k≤m→0≤(F.cB (List.take n (List.drop fr.toNat L)) tk.length ms tk) x k∧(F.cB (List.take n (List.drop fr.toNat L)) tk.length ms tk) x k≤F.BB) (u v row bE:List Int) (i:Nat) (O:F.vu n m (F.cB (List.take n (List.drop fr.toNat L)) tk.length ms tk) n u v row bE) (hR:R=F.bT (fun k=>if F.gN row k=0 then 0 else (F.cB (List.take n (List.drop fr.toNat L)) tk.length ms tk) (F.gN row k) k) m):∀(d k:Nat),k+d=m+1→1≤k→
 Sym.af Tryz.prog b0 (cutAt Tryz.f63 48) (Cb L bU ms fr tk bp n q m i u v row bE k (F.bT (fun k=>if F.gN row k=0 then 0 else (F.cB (List.take n (List.drop fr.toNat L)) tk.length ms tk) (F.gN row k) k) (k - 1))) (Sym.Ends Tryz.prog Tryz.f63 2 (.c (.int .i64 R)) []):=by
 have hB:F.BB=36028797018963968:=rfl;have d0:(cod 0).d=(0:Int):=rfl
 have tm:∀k,1≤k→k≤m→0≤(fun k=>if F.gN row k=0 then 0 else (F.cB (List.take n (List.drop fr.toNat L)) tk.length ms tk) (F.gN row k) k) k∧(fun k=>if F.gN row k=0 then 0 else (F.cB (List.take n (List.drop fr.toNat L)) tk.length ms tk) (F.gN row k) k) k≤F.BB:=fun k k1 k2=>by
  show 0≤(if F.gN row k=0 then 0 else (F.cB (List.take n (List.drop fr.toNat L)) tk.length ms tk) (F.gN row k) k)∧(if F.gN row k=0 then 0 else (F.cB (List.take n (List.drop fr.toNat L)) tk.length ms tk) (F.gN row k) k)≤F.BB;by_cases c:F.gN row k=0
  ·rw [if_pos c,hB];omega
  ·rw [if_neg c];exact hC _ k (by omega) (O.O.inv.kx k k1 k2) k1 k2
 intro d
 induction d with
 | zero=>
   intro k hk h1;refine af.go (cfg:=cO) cH mixed cJ 400 hb (ND L bU ms fr tk bp n q m i u v row bE k _) ?_;have e:k - 1=m:=by omega
   rw [e,←hR];simp only [T.wp,T.wp_cond,bF,Int.ofNat_eq_natCast,decide_eq_true_eq,and_true,true_and,Nat.zero_add]
   exact ap (by omega) trivial
 | succ d ih=>
   intro k hk h1;have nx:=ih (k+1) (by omega) (by omega);have hs:=N9 (f:=(fun k=>if F.gN row k=0 then 0 else (F.cB (List.take n (List.drop fr.toNat L)) tk.length ms tk) (F.gN row k) k)) (B:=F.BB) (k - 1) (fun j j1 j2=>tm j j1 (by omega));have hk1:=tm k h1 (by omega)
   have e2:F.bT (fun k=>if F.gN row k=0 then 0 else (F.cB (List.take n (List.drop fr.toNat L)) tk.length ms tk) (F.gN row k) k) (k+1 - 1)=F.bT (fun k=>if F.gN row k=0 then 0 else (F.cB (List.take n (List.drop fr.toNat L)) tk.length ms tk) (F.gN row k) k) (k - 1)+(fun k=>if F.gN row k=0 then 0 else (F.cB (List.take n (List.drop fr.toNat L)) tk.length ms tk) (F.gN row k) k) k:=by
    have:k+1 - 1=(k - 1)+1:=by omega
    rw [this];show F.bT (fun k=>if F.gN row k=0 then 0 else (F.cB (List.take n (List.drop fr.toNat L)) tk.length ms tk) (F.gN row k) k) (k - 1)+(fun k=>if F.gN row k=0 then 0 else (F.cB (List.take n (List.drop fr.toNat L)) tk.length ms tk) (F.gN row k) k) (k - 1+1)=_;rw [show k - 1+1=k by omega]
   rw [e2] at nx;refine af.go (cfg:=cO) cH mixed cJ 400 hb (ND L bU ms fr tk bp n q m i u v row bE k _) ?_;generalize F.bT (fun k=>if F.gN row k=0 then 0 else (F.cB (List.take n (List.drop fr.toNat L)) tk.length ms tk) (F.gN row k) k) (k - 1)=S at*;simp only [T.wp,T.wp_cond,bF,Int.ofNat_eq_natCast,decide_eq_true_eq,and_true,true_and,Nat.zero_add,d0,Int.toNat_natCast];refine aq (by omega) ⟨⟨by omega,by omega⟩,by rw [O.lr];omega,?_⟩;have rp:=O.rp k;have rb:=O.O.inv.kx k h1 (by omega);have gz:(row.getD k 0).toNat=F.gN row k:=rfl;have gi:row.getD k 0=F.gI row k:=rfl;have gni:F.gN row k=(F.gI row k).toNat:=rfl;rw [hB] at hs hk1;have hkB:((k - 1:Nat):Int)*36028797018963968≤60*36028797018963968:=Int.mul_le_mul_of_nonneg_right (by omega) (by omega);by_cases c:F.gN row k=0
   ·refine ap (by rw [gi];omega) ⟨by unfold ae;omega,?_⟩;have e3:S+(fun k=>if F.gN row k=0 then 0 else (F.cB (List.take n (List.drop fr.toNat L)) tk.length ms tk) (F.gN row k) k) k=S:=by show S+(if F.gN row k=0 then 0 else _)=S;rw [if_pos c];omega
    rw [e3] at nx;exact nx
   ·have e3:(fun k=>if F.gN row k=0 then 0 else (F.cB (List.take n (List.drop fr.toNat L)) tk.length ms tk) (F.gN row k) k) k=(F.cB (List.take n (List.drop fr.toNat L)) tk.length ms tk) (F.gN row k) k:=by show (if F.gN row k=0 then 0 else _)=_;rw [if_neg c]
    rw [e3] at nx hk1
    have e4:F.Ak (List.take n (List.drop fr.toNat L)) tk.length ms tk (row.getD k 0 - 1).toNat ((k:Int) - 1).toNat=(F.cB (List.take n (List.drop fr.toNat L)) tk.length ms tk) (F.gN row k) k:=by
     show _=F.Ak (List.take n (List.drop fr.toNat L)) tk.length ms tk (F.gN row k - 1) (k - 1);rw [show (row.getD k 0 - 1).toNat=F.gN row k - 1 by rw [gi,gni];omega,show ((k:Int) - 1).toNat=k - 1 by omega]
    rw [gi] at e4 ⊢;refine aq (by omega) ⟨⟨by omega,by omega⟩,by rw [O.lr];omega,by unfold ae;omega,by unfold ae;omega,⟨mq,sq,⟨by omega,by omega⟩,⟨by omega,by omega,by omega⟩,hr⟩,?_⟩;rw [e4];exact ⟨by unfold ae;omega,by unfold ae;omega,nx⟩
theorem ag0 (L:List (List Int)) (bU:Bool) (ms fr:Int) (tk:List Bool) (bp:Bool) (n:Nat) (q:List Int) (m:Nat) (b0:aC) (hb:b0.n=2) (R:Int) (hn:1≤n∧n≤20) (hm:m=tk.length+n) (sq:tk.length≤32) (_:F.fg L tk) (_:fr.toNat+n≤L.length) (hC:∀x k,1≤x→x≤n→1≤k→k≤m→0≤(F.cB (List.take n (List.drop fr.toNat L)) tk.length ms tk) x k∧(F.cB (List.take n (List.drop fr.toNat L)) tk.length ms tk) x k≤F.BB) (t:Nat) (u v mC bE low:List Int) (used:List Bool) (a0:Nat) (rk:Nat→Nat) (N:Nat)
 (nx:∀r,F.vu n m (F.cB (List.take n (List.drop fr.toNat L)) tk.length ms tk) (t+1) u v r bE→Sym.af Tryz.prog b0 (cutAt Tryz.f63 11) (oG L bU ms fr tk bp n q m (t+1+1) u v r bE) (Sym.Ends Tryz.prog Tryz.f63 2 (.c (.int .i64 R)) [])):∀(f:Nat) (r:List Int) (a:Nat),rk a < f→F.Il n m (F.cB (List.take n (List.drop fr.toNat L)) tk.length ms tk) t u v mC bE low used a0 rk N r a→
 Sym.af Tryz.prog b0 (cutAt Tryz.f63 43) (uo L bU ms fr tk bp n q m (t+1) u v r bE a) (Sym.Ends Tryz.prog Tryz.f63 2 (.c (.int .i64 R)) []):=by
 have d0:(cod 0).d=(0:Int):=rfl;intro f
 induction f with
 | zero=>intro r a h;omega
 | succ f ih=>
   intro r a hf A;refine af.go (cfg:=cO) cH mixed cJ 400 hb (Zj L bU ms fr tk bp n q m (t+1) u v r bE a) ?_;have hi:=A.S.T.hi;simp only [T.wp,T.wp_cond,bF,Int.ofNat_eq_natCast,Nat.zero_add,Bool.not_eq_true',decide_eq_false_iff_not,d0,Int.toNat_natCast];by_cases c:a=0
   ·subst c;exact ap (by simp) ⟨by unfold ae;omega,nx r (A.fin (by omega) hC)⟩
   ·obtain ⟨g1,g2,g3,g4⟩:=A.step c;have n2:=ih _ _ (by omega) g4;have gi:bE.getD a 0=F.gI bE a:=rfl;have gn:F.gN bE a=(F.gI bE a).toNat:=rfl;have wp:=A.S.wp a;have e:F.gI bE a=(F.gN bE a:Int):=by rw [gn];omega
    rw [gi,←gn];rw [e];refine aq (by omega) ⟨⟨by omega,by omega⟩,by rw [A.S.lw];omega,⟨by omega,by omega⟩,by rw [A.lr];omega,⟨by omega,by omega⟩,by rw [A.lr];omega,⟨by omega,by omega⟩,by rw [A.S.lw];omega,n2⟩
theorem Sc.bd {m:Nat} {c:Nat→Int} {used:List Bool} {a:Nat} {low bE:List Int} {k:Nat} {cz dr:List Int} {delta:Int} {next:Nat} (S:F.Sc m c used a low bE k cz dr delta next) (hl:∀j,0≤F.gI low j∧F.gI low j≤1152921504606846976) (hc:∀j,1≤j→j≤m→-1152921504606846976≤c j) (hk:k≤m+1):
 (∀j,-1152921504606846976≤F.gI cz j∧F.gI cz j≤1152921504606846976)∧-1152921504606846976≤delta∧delta≤1152921504606846976:=by
 have h1:∀j,-1152921504606846976≤F.gI cz j∧F.gI cz j≤1152921504606846976:=fun j=>by
  have:=hl j;by_cases g:1≤j∧j < k∧F.gB used j=false
  ·rw [(S.don j g.1 g.2.1 g.2.2).1];have:=hc j g.1 (by omega);omega
  ·rw [(S.rest j (by
    by_cases g1:k≤j
    ·exact .inl g1
    ·by_cases g2:j=0
     ·exact .inr (.inr g2)
     ·refine .inr (.inl ?_)
      cases h3:F.gB used j with
      | true=>rfl
      | false=>exact absurd ⟨by omega,by omega,h3⟩ g)).1]
   omega
 refine ⟨h1,?_⟩;rcases S.dl with ⟨d1,_⟩ | ⟨_,_,_,d4,_⟩
 ·omega
 ·rw [d4];exact h1 next
theorem agZ (L:List (List Int)) (bU:Bool) (ms fr:Int) (tk:List Bool) (bp:Bool) (n:Nat) (q:List Int) (m:Nat) (b0:aC) (hb:b0.n=2) (R:Int) (hn:1≤n∧n≤20) (hm:m=tk.length+n) (sq:tk.length≤32) (_:F.fg L tk) (_:fr.toNat+n≤L.length) (hC:∀x k,1≤x→x≤n→1≤k→k≤m→0≤(F.cB (List.take n (List.drop fr.toNat L)) tk.length ms tk) x k∧(F.cB (List.take n (List.drop fr.toNat L)) tk.length ms tk) x k≤F.BB) (t:Nat) (u v row bE low cz dr:List Int) (used:List Bool) (a:Nat) (rk:Nat→Nat) (N:Nat) (delta:Int) (next:Nat) (S:F.iN n m (F.cB (List.take n (List.drop fr.toNat L)) tk.length ms tk) t u v row bE low used a rk N) (DD:F.gN row a≠0)
 (hS:F.Sc m (fun k=>(F.cB (List.take n (List.drop fr.toNat L)) tk.length ms tk) (F.gN row a) k - F.gI u (F.gN row a) - F.gI v k) (used.set a true) a low bE (m+1) cz dr delta next)
 (n22:∀u1 v1 low2 QE N',F.iN n m (F.cB (List.take n (List.drop fr.toNat L)) tk.length ms tk) t u1 v1 row dr low2 (used.set a true) next QE N'→F.gN row next≠0→Sym.af Tryz.prog b0 (cutAt Tryz.f63 22) (oI L bU ms fr tk bp n q m (t+1) u1 v1 row dr low2 (used.set a true) next) (Sym.Ends Tryz.prog Tryz.f63 2 (.c (.int .i64 R)) []))
 (n43:∀u1 v1 low2 QE N',F.iN n m (F.cB (List.take n (List.drop fr.toNat L)) tk.length ms tk) t u1 v1 row dr low2 (used.set a true) next QE N'→F.gN row next=0→Sym.af Tryz.prog b0 (cutAt Tryz.f63 43) (uo L bU ms fr tk bp n q m (t+1) u1 v1 row dr next) (Sym.Ends Tryz.prog Tryz.f63 2 (.c (.int .i64 R)) [])):
 ∀(d k:Nat) (u1 v1 low2:List Int),k+d=m+1→F.Up (used.set a true) row u v cz delta k u1 v1 low2→
 Sym.af Tryz.prog b0 (cutAt Tryz.f63 34) (ul L bU ms fr tk bp n q m (t+1) u1 v1 row dr low2 (used.set a true) delta (next:Int) k) (Sym.Ends Tryz.prog Tryz.f63 2 (.c (.int .i64 R)) []):=by
 have d0:(cod 0).d=(0:Int):=rfl;have d4:(cod 3).d=false:=rfl;have bd:=S.bd (by omega) hn.2 hC;have ar:=S.adu DD;have hua:F.gB (used.set a true) a=true:=by rw [F.Du _ _ _ _ (by rw [S.ls];have:=S.T.am;omega),if_pos rfl]
 have sb:=Sc.bd hS bd.2.2.2.2.2 (fun j j1 j2=>by
  have h1:=ar.1 a hua;have h2:=hC (F.gN row a) j h1.2.1 h1.2.2 j1 j2;have h3:=bd.2.2.2.1 (F.gN row a);have h4:=bd.2.2.2.2.1 j;show _≤(F.cB (List.take n (List.drop fr.toNat L)) tk.length ms tk) (F.gN row a) j - F.gI u (F.gN row a) - F.gI v j;omega) (Nat.le_refl _)
 intro d
 induction d with
 | zero=>
   intro k u1 v1 low2 hk U;have hk:k=m+1:=by omega
   subst hk;obtain ⟨g1,QE,N',T'⟩:=S.step (by omega) hn.2 hC DD hS U;refine af.go (cfg:=cO) cH mixed cJ 400 hb (NC L bU ms fr tk bp n q m (t+1) u1 v1 row dr low2 (used.set a true) delta (next:Int) (m+1)) ?_;simp only [T.wp,T.wp_cond,bF,Int.ofNat_eq_natCast,decide_eq_true_eq,Nat.zero_add,d0,Int.toNat_natCast];refine ap (by omega) ⟨⟨by omega,by omega⟩,by rw [S.lr];omega,?_⟩;have gi:row.getD next 0=F.gI row next:=rfl
   have gn:F.gN row next=(F.gI row next).toNat:=rfl
   have rp:=S.rp next
   by_cases c:F.gN row next=0
   ·exact aq (by rw [gi];omega) (n43 u1 v1 low2 QE N' T' c)
   ·exact ap (by rw [gi];omega) (n22 u1 v1 low2 QE N' T' c)
 | succ d ih=>
   intro k u1 v1 low2 hk U;refine af.go (cfg:=cO) cH mixed cJ 400 hb (NC L bU ms fr tk bp n q m (t+1) u1 v1 row dr low2 (used.set a true) delta (next:Int) k) ?_;simp only [T.wp,T.wp_cond,bF,Int.ofNat_eq_natCast,decide_eq_true_eq,Nat.zero_add,d0,d4,Int.toNat_natCast];have lu:=U.lu;have lv:=U.lv;have ll:=U.ll;rw [S.lu] at lu;rw [S.lv] at lv;rw [hS.ll] at ll;refine aq (by omega) ⟨⟨by omega,by omega⟩,by rw [List.length_set,S.ls];omega,?_⟩;have gb:(used.set a true).getD k false=F.gB (used.set a true) k:=rfl;have gi:row.getD k 0=F.gI row k:=rfl;have gn:(F.gI row k).toNat=F.gN row k:=rfl;have rp:=S.rp k;rw [gb,gi,gn]
   cases c:F.gB (used.set a true) k with
   | true=>
     have h1:=ar.1 k c;obtain ⟨e1,e2,U'⟩:=U.yes c (fun j hj hju e=>by have:=ar.2 k j c hju e;omega) (by rw [S.lu];omega) (by rw [S.lv];omega);have n2:=ih (k+1) _ _ _ (by omega) U';have b1:=bd.2.2.2.1 (F.gN row k);have b2:=bd.2.2.2.2.1 k;have gu:u1.getD (F.gN row k) 0=F.gI u1 (F.gN row k):=rfl;have gv:v1.getD k 0=F.gI v1 k:=rfl;have er:F.gI row k=(F.gN row k:Int):=by rw [←gn];omega
     rw [gu,gv,er]
     refine aq rfl ⟨⟨by omega,by omega⟩,by rw [S.lr];omega,⟨by omega,by omega⟩,by omega,by unfold ae;omega,⟨by omega,by omega⟩,by omega,⟨by omega,by omega⟩,by omega,by unfold ae;omega,⟨by omega,by omega⟩,by omega,by unfold ae;omega,n2⟩
   | false=>
     obtain ⟨e2,U'⟩:=U.no c (by rw [hS.ll];omega);have n2:=ih (k+1) _ _ _ (by omega) U';have b3:=sb.1 k;have gl:low2.getD k 0=F.gI low2 k:=rfl;rw [gl];exact ap (by simp) ⟨⟨by omega,by omega⟩,by omega,by unfold ae;omega,⟨by omega,by omega⟩,by omega,by unfold ae;omega,n2⟩
theorem abA:bu Tryz.f63 28= .code (.region (idI (bu Tryz.f63 28)) R28 true)::(bu Tryz.f63 28).tail:=by kernel_rfl
theorem XM:Region.lexB .any R28=true:=by kernel_rfl
theorem SM:(R28.toList.all fun o=>decide (ca cO o≤1)||Gx 97 o)=true:=by kernel_rfl
theorem XK:(R28.toList.all fun o=>(decide (o.dst≠some 13)&&decide (o.dst≠some 97))||(decide (o.dst=some 97)&&match o.op with | .move (.tmp x)=>decide (x=13) | _=>false))=true:=by kernel_rfl
theorem SL:(R28.toList.all fun o=>o.guard.isNone)=true:=by kernel_rfl
theorem agX (L:List (List Int)) (bU:Bool) (ms fr:Int) (tk:List Bool) (bp:Bool) (n:Nat) (q:List Int) (m:Nat) (b0:aC) (hb:b0.n=2) (R:Int) (hn:1≤n∧n≤20) (hm:m=tk.length+n) (sq:tk.length≤32) (hr:F.fg L tk) (mq:fr.toNat+n≤L.length) (hC:∀x k,1≤x→x≤n→1≤k→k≤m→0≤(F.cB (List.take n (List.drop fr.toNat L)) tk.length ms tk) x k∧(F.cB (List.take n (List.drop fr.toNat L)) tk.length ms tk) x k≤F.BB) (t:Nat) (u v row bE low:List Int) (used:List Bool) (a:Nat) (rk:Nat→Nat) (N:Nat) (S:F.iN n m (F.cB (List.take n (List.drop fr.toNat L)) tk.length ms tk) t u v row bE low used a rk N) (DD:F.gN row a≠0)
 (n34:∀cz dr delta next,F.Sc m (fun k=>(F.cB (List.take n (List.drop fr.toNat L)) tk.length ms tk) (F.gN row a) k - F.gI u (F.gN row a) - F.gI v k) (used.set a true) a low bE (m+1) cz dr delta next→
   Sym.af Tryz.prog b0 (cutAt Tryz.f63 34) (ul L bU ms fr tk bp n q m (t+1) u v row dr cz (used.set a true) delta ((next:Nat):Int) 0) (Sym.Ends Tryz.prog Tryz.f63 2 (.c (.int .i64 R)) [])):
 ∀(d k:Nat) (cz dr:List Int) (delta:Int) (next:Nat),k+d=m+1→1≤k→F.Sc m (fun k=>(F.cB (List.take n (List.drop fr.toNat L)) tk.length ms tk) (F.gN row a) k - F.gI u (F.gN row a) - F.gI v k) (used.set a true) a low bE k cz dr delta next→
 Sym.af Tryz.prog b0 (cutAt Tryz.f63 25) (Ca L bU ms fr tk bp n q m (t+1) u v row dr cz (used.set a true) a (F.gI row a) delta (next:Int) k) (Sym.Ends Tryz.prog Tryz.f63 2 (.c (.int .i64 R)) []):=by
 have d0:(cod 0).d=(0:Int):=rfl;have d4:(cod 3).d=false:=rfl;have bd:=S.bd (by omega) hn.2 hC;have ar:=S.adu DD;have hua:F.gB (used.set a true) a=true:=by rw [F.Du _ _ _ _ (by rw [S.ls];have:=S.T.am;omega),if_pos rfl]
 have ra:=ar.1 a hua;have hB:F.BB=36028797018963968:=rfl;intro d
 induction d with
 | zero=>
   intro k cz dr delta next hk k1 U
   have hk:k=m+1:=by omega
   subst hk;refine af.go (cfg:=cO) cH mixed cJ 400 hb (NB L bU ms fr tk bp n q m (t+1) u v row dr cz (used.set a true) a (F.gI row a) delta (next:Int) (m+1)) ?_;simp only [T.wp,T.wp_cond,bF,Int.ofNat_eq_natCast,decide_eq_true_eq,Nat.zero_add,d4,Int.toNat_natCast]
   exact ap (by omega) (n34 cz dr delta next U)
 | succ d ih=>
   intro k cz dr delta next hk k1 U
   refine af.go (cfg:=cO) cH mixed cJ 400 hb (NB L bU ms fr tk bp n q m (t+1) u v row dr cz (used.set a true) a (F.gI row a) delta (next:Int) k) ?_;simp only [T.wp,T.wp_cond,bF,Int.ofNat_eq_natCast,decide_eq_true_eq,Nat.zero_add,d4,Int.toNat_natCast];refine aq (by omega) ⟨⟨by omega,by omega⟩,by rw [List.length_set,S.ls];omega,?_⟩;have gb:(used.set a true).getD k false=F.gB (used.set a true) k:=rfl;rw [gb]
   cases c:F.gB (used.set a true) k with
   | true=>exact aq rfl ⟨by unfold ae;omega,ih (k+1) cz dr delta next (by omega) (by omega) (U.skip c)⟩
   | false=>
     refine ap (by simp) ?_;refine af.aip (cfg:=cO) cH mixed qU 400 hb abA 13 97 XM SM XK SL ⟨by kernel_rfl,by kernel_rfl,by kernel_rfl⟩ trivial (Zg L bU ms fr tk bp n q m (t+1) u v row dr cz (used.set a true) a (F.gI row a) delta (next:Int) k) ?_;have e0:(F.gI row a).toNat=F.gN row a:=rfl;have er:F.gI row a=(F.gN row a:Int):=by rw [←e0];have:=S.rp a;omega
     have e4:F.Ak (List.take n (List.drop fr.toNat L)) tk.length ms tk (F.gI row a - 1).toNat ((k:Int) - 1).toNat=(F.cB (List.take n (List.drop fr.toNat L)) tk.length ms tk) (F.gN row a) k:=by
      show _=F.Ak (List.take n (List.drop fr.toNat L)) tk.length ms tk (F.gN row a - 1) (k - 1);rw [show (F.gI row a - 1).toNat=F.gN row a - 1 by omega,show ((k:Int) - 1).toNat=k - 1 by omega]
     simp only [T.wp,T.wp_cond,bF,Int.ofNat_eq_natCast,decide_eq_true_eq,and_true,true_and,Nat.zero_add,d0,Int.toNat_natCast,e4];have gu:u.getD (F.gN row a) 0=F.gI u (F.gN row a):=rfl;have gv:v.getD k 0=F.gI v k:=rfl;have gl:cz.getD k 0=F.gI cz k:=rfl;rw [e0,gu,gv,gl];have h2:=hC (F.gN row a) k ra.2.1 ra.2.2 k1 (by omega);rw [hB] at h2;have h3:=bd.2.2.2.1 (F.gN row a);have h4:=bd.2.2.2.2.1 k
     have key:=U.put c k1 (by omega) (low2:=if (F.cB (List.take n (List.drop fr.toNat L)) tk.length ms tk) (F.gN row a) k - F.gI u (F.gN row a) - F.gI v k < F.gI cz k then cz.set k ((F.cB (List.take n (List.drop fr.toNat L)) tk.length ms tk) (F.gN row a) k - F.gI u (F.gN row a) - F.gI v k) else cz)
      (way2:=if (F.cB (List.take n (List.drop fr.toNat L)) tk.length ms tk) (F.gN row a) k - F.gI u (F.gN row a) - F.gI v k < F.gI cz k then dr.set k (a:Int) else dr) (by
        by_cases g:(F.cB (List.take n (List.drop fr.toNat L)) tk.length ms tk) (F.gN row a) k - F.gI u (F.gN row a) - F.gI v k < F.gI cz k
        ·exact .inl ⟨g,if_pos g,if_pos g⟩
        ·exact .inr ⟨g,if_neg g,if_neg g⟩)
     generalize hX:(F.cB (List.take n (List.drop fr.toNat L)) tk.length ms tk) (F.gN row a) k - F.gI u (F.gN row a) - F.gI v k=X at*
     have hX2:ae X∧ae ((F.cB (List.take n (List.drop fr.toNat L)) tk.length ms tk) (F.gN row a) k - F.gI u (F.gN row a)):=by
      rw [←hX];unfold ae;omega
     refine ⟨by unfold ae;omega,by unfold ae;omega,⟨mq,sq,⟨by omega,by omega⟩,⟨by omega,by omega,by omega⟩,hr⟩,⟨by omega,by omega⟩,by rw [S.lu];omega,hX2.2,⟨by omega,by omega⟩,by rw [S.lv];omega,hX2.1,⟨by omega,by omega⟩,by rw [U.ll];omega,?_⟩;have kl:k < cz.length:=by rw [U.ll];omega
     have kw:k < dr.length:=by rw [U.lw];omega
     have kz:(0:Int)≤(k:Int)∧(k:Int) < ((m+1:Nat):Int):=⟨by omega,by omega⟩;have ki:ae ((k:Int)+1):=by unfold ae;omega
     by_cases g:X < F.gI cz k
     ·rw [if_pos g,if_pos g] at key;have ks:k < (cz.set k X).length:=by rw [List.length_set];exact kl
      refine aq g ⟨kz,kl,kz,kw,kz,ks,?_⟩;have gs:(cz.set k X).getD k 0=F.gI (cz.set k X) k:=rfl;rw [gs];by_cases g2:F.gI (cz.set k X) k < delta
      ·exact aq g2 ⟨kz,ks,ki,ih (k+1) _ _ _ k (by omega) (by omega) (key.1 g2)⟩
      ·exact ap g2 ⟨ki,ih (k+1) _ _ _ next (by omega) (by omega) (key.2 g2)⟩
     ·rw [if_neg g,if_neg g] at key;refine ap g ⟨kz,kl,?_⟩;by_cases g2:F.gI cz k < delta
      ·exact aq g2 ⟨kz,kl,ki,ih (k+1) _ _ _ k (by omega) (by omega) (key.1 g2)⟩
      ·exact ap g2 ⟨ki,ih (k+1) _ _ _ next (by omega) (by omega) (key.2 g2)⟩
theorem agW (L:List (List Int)) (bU:Bool) (ms fr:Int) (tk:List Bool) (bp:Bool) (n:Nat) (q:List Int) (m:Nat) (b0:aC) (hb:b0.n=2) (R:Int) (hn:1≤n∧n≤20) (hm:m=tk.length+n) (sq:tk.length≤32) (hr:F.fg L tk) (mq:fr.toNat+n≤L.length) (hC:∀x k,1≤x→x≤n→1≤k→k≤m→0≤(F.cB (List.take n (List.drop fr.toNat L)) tk.length ms tk) x k∧(F.cB (List.take n (List.drop fr.toNat L)) tk.length ms tk) x k≤F.BB) (t:Nat) (row:List Int)
 (n11:∀u v r bE,F.vu n m (F.cB (List.take n (List.drop fr.toNat L)) tk.length ms tk) (t+1) u v r bE→Sym.af Tryz.prog b0 (cutAt Tryz.f63 11) (oG L bU ms fr tk bp n q m (t+1+1) u v r bE) (Sym.Ends Tryz.prog Tryz.f63 2 (.c (.int .i64 R)) [])):
 ∀(f:Nat) (u v bE low:List Int) (used:List Bool) (a:Nat) (rk:Nat→Nat) (N:Nat),F.free used < f→F.iN n m (F.cB (List.take n (List.drop fr.toNat L)) tk.length ms tk) t u v row bE low used a rk N→F.gN row a≠0→
 Sym.af Tryz.prog b0 (cutAt Tryz.f63 22) (oI L bU ms fr tk bp n q m (t+1) u v row bE low used a) (Sym.Ends Tryz.prog Tryz.f63 2 (.c (.int .i64 R)) []):=by
 have d0:(cod 0).d=(0:Int):=rfl;intro f
 induction f with
 | zero=>intro u v bE low used a rk N h;omega
 | succ f ih=>
   intro u v bE low used a rk N hf S DD;have am:=S.T.am;have hi:=S.T.hi;have fs:=F.Gf used a (by rw [S.ls];omega) S.T.au;refine af.go (cfg:=cO) cH mixed cJ 400 hb (Zi L bU ms fr tk bp n q m (t+1) u v row bE low used a) ?_;simp only [T.wp,bF,Int.ofNat_eq_natCast,Nat.zero_add,d0,Int.toNat_natCast];refine ⟨⟨by omega,by omega⟩,by rw [S.ls];omega,⟨by omega,by omega⟩,by rw [S.lr];omega,?_⟩;refine agX L bU ms fr tk bp n q m b0 hb R hn hm sq hr mq hC t u v row bE low used a rk N S DD (fun cz dr delta next hS=>?_) m 1 low bE 1152921504606846976 0 (by omega) (by omega) (F.Sc.start S.ll S.lw);refine agZ L bU ms fr tk bp n q m b0 hb R hn hm sq hr mq hC t u v row bE low cz dr used a rk N delta next S DD hS (fun u1 v1 low2 QE N' T' EY=>ih u1 v1 dr low2 _ next QE N' (by omega) T' EY) (fun u1 v1 low2 QE N' T' EY=>?_) (m+1) 0 u v cz (by omega) (F.Up.start ..)
   exact ag0 L bU ms fr tk bp n q m b0 hb R hn hm sq hr mq hC t u1 v1 row dr low2 (used.set a true) next QE N' (fun r O=>n11 u1 v1 r dr O) (QE next+1) row next (by omega) (T'.aug EY)
theorem agV (L:List (List Int)) (bU:Bool) (ms fr:Int) (tk:List Bool) (bp:Bool) (n:Nat) (q:List Int) (m:Nat) (b0:aC) (hb:b0.n=2) (R:Int) (hn:1≤n∧n≤20) (hm:m=tk.length+n) (sq:tk.length≤32) (_:F.fg L tk) (_:fr.toNat+n≤L.length) (_:∀x k,1≤x→x≤n→1≤k→k≤m→0≤(F.cB (List.take n (List.drop fr.toNat L)) tk.length ms tk) x k∧(F.cB (List.take n (List.drop fr.toNat L)) tk.length ms tk) x k≤F.BB) (i:Nat) (u v row bE:List Int)
 (n22:Sym.af Tryz.prog b0 (cutAt Tryz.f63 22) (oI L bU ms fr tk bp n q m i u v row bE (List.replicate (m+1) 1152921504606846976) (List.replicate (m+1) false) 0) (Sym.Ends Tryz.prog Tryz.f63 2 (.c (.int .i64 R)) [])):
 ∀(d k:Nat) (low:List Int),k+d=m+1→low.length=m+1→(∀j,j < k→low[j]? =some 1152921504606846976)→
 Sym.af Tryz.prog b0 (cutAt Tryz.f63 17) (B9 L bU ms fr tk bp n q m i u v row bE low k) (Sym.Ends Tryz.prog Tryz.f63 2 (.c (.int .i64 R)) []):=by
 intro d
 induction d with
 | zero=>
   intro k low hk hl ho;refine af.go (cfg:=cO) cH mixed cJ 400 hb (NA L bU ms fr tk bp n q m i u v row bE low k) ?_;simp only [T.wp,T.wp_cond,bF,Int.ofNat_eq_natCast,decide_eq_true_eq,and_true,Nat.zero_add,Int.toNat_natCast]
   have e:low=List.replicate (m+1) 1152921504606846976:=by
    refine List.ext_getElem? fun j=>?_;rcases Nat.lt_or_ge j (m+1) with c | c
    ·rw [ho j (by omega),List.getElem?_replicate,if_pos c]
    ·rw [List.getElem?_eq_none (by omega),List.getElem?_eq_none (by rw [List.length_replicate];exact c)]
   rw [e]
   exact ap (by omega) ⟨by unfold ae;omega,⟨by omega,by omega⟩,n22⟩
 | succ d ih=>
   intro k low hk hl ho;refine af.go (cfg:=cO) cH mixed cJ 400 hb (NA L bU ms fr tk bp n q m i u v row bE low k) ?_
   have n2:=ih (k+1) (low.set k 1152921504606846976) (by omega) (by rw [List.length_set,hl]) (fun j hj=>by
    rw [List.getElem?_set];by_cases e:k=j
    ·rw [if_pos e,if_pos (by omega)]
    ·rw [if_neg e];exact ho j (by omega))
   simp only [T.wp,T.wp_cond,bF,Int.ofNat_eq_natCast,decide_eq_true_eq,and_true,Nat.zero_add,Int.toNat_natCast];exact aq (by omega) ⟨⟨by omega,by omega⟩,by omega,by unfold ae;omega,n2⟩
theorem agU (L:List (List Int)) (bU:Bool) (ms fr:Int) (tk:List Bool) (bp:Bool) (n:Nat) (q:List Int) (m:Nat) (b0:aC) (hb:b0.n=2) (R:Int) (hn:1≤n∧n≤20) (hm:m=tk.length+n) (sq:tk.length≤32) (hr:F.fg L tk) (mq:fr.toNat+n≤L.length) (hC:∀x k,1≤x→x≤n→1≤k→k≤m→0≤(F.cB (List.take n (List.drop fr.toNat L)) tk.length ms tk) x k∧(F.cB (List.take n (List.drop fr.toNat L)) tk.length ms tk) x k≤F.BB) (tD:∀u v row bE,F.vu n m (F.cB (List.take n (List.drop fr.toNat L)) tk.length ms tk) n u v row bE→R=F.bT (fun k=>if F.gN row k=0 then 0 else (F.cB (List.take n (List.drop fr.toNat L)) tk.length ms tk) (F.gN row k) k) m):∀(d t:Nat),t+d=n→∀(u v row bE:List Int),F.vu n m (F.cB (List.take n (List.drop fr.toNat L)) tk.length ms tk) t u v row bE→
 Sym.af Tryz.prog b0 (cutAt Tryz.f63 11) (oG L bU ms fr tk bp n q m (t+1) u v row bE) (Sym.Ends Tryz.prog Tryz.f63 2 (.c (.int .i64 R)) []):=by
 intro d
 induction d with
 | zero=>
   intro t ht u v row bE O;have ht:t=n:=by omega
   have O':F.vu n m (F.cB (List.take n (List.drop fr.toNat L)) tk.length ms tk) n u v row bE:=by rw [ht] at O;exact O
   have A:=ag1 L bU ms fr tk bp n q m b0 hb R hn hm sq hr mq hC u v row bE (t+1) O' (tD u v row bE O') m 1 (by omega) (by omega);refine af.go (cfg:=cO) cH mixed cJ 400 hb (Nz L bU ms fr tk bp n q m (t+1) u v row bE) ?_;simp only [T.wp,T.wp_cond,bF,Int.ofNat_eq_natCast,decide_eq_true_eq,and_true,Nat.zero_add]
   exact ap (by omega) A
 | succ d ih=>
   intro t ht u v row bE O;refine af.go (cfg:=cO) cH mixed cJ 400 hb (Nz L bU ms fr tk bp n q m (t+1) u v row bE) ?_;simp only [T.wp,T.wp_cond,bF,Int.ofNat_eq_natCast,decide_eq_true_eq,and_true,Nat.zero_add];obtain ⟨rk,N,T⟩:=O.tree (by omega) (low:=List.replicate (m+1) 1152921504606846976) rfl;have e1:((m:Int)+1).toNat=m+1:=by omega
   rw [e1];refine aq (by omega) ⟨⟨by omega,by omega⟩,by rw [O.lr];omega,by unfold ae;omega,⟨by omega,by omega⟩,?_⟩;refine agV L bU ms fr tk bp n q m b0 hb R hn hm sq hr mq hC (t+1) u v (row.set 0 ((t+1:Nat):Int)) bE ?_ (m+1) 0 (List.replicate (m+1) 0) (by omega) (by simp) (fun j hj=>by omega);refine agW L bU ms fr tk bp n q m b0 hb R hn hm sq hr mq hC t (row.set 0 ((t+1:Nat):Int)) (fun u v r bE O=>ih (t+1) (by omega) u v r bE O) (F.free (List.replicate (m+1) false)+1) u v bE _ _ 0 rk N (by omega) T ?_;rw [F.yd _ _ _ _ (by rw [O.lr];omega),if_pos rfl];omega
theorem Zh (L:List (List Int)) (bU:Bool) (ms:Int) (fr:Int) (tk:List Bool) (bp:Bool) (b0:aC) (hb:b0.n=2) (h0:0≤fr∧fr≤(List.length L:Int)) (h1:F.fg L tk) (h2:List.length tk≤32) (h3:F.Zy (L.drop fr.toNat) ms tk):Sym.af Tryz.prog b0 [.code (aj Tryz.f63)] ⟨ay Tryz.f63 [.c (.ai 0 0 L.length bU),.c (.int .i64 ms),.c (.int .i64 fr),.c (.ai 1 0 tk.length bp)],([.cL 0 L none,.aB 3 tk]:Heap cod)⟩ (Sym.Ends Tryz.prog Tryz.f63 2 (.c (.int .i64 (F.vZ ms (L.drop fr.toNat) tk))) []):=by
 obtain ⟨n,hn⟩:∃n,n=L.length - fr.toNat:=⟨_,rfl⟩;have hlen:(L.drop fr.toNat).length=n:=by rw [List.length_drop,hn]
 refine af.go (cfg:=cO) cH mixed cJ 400 hb (ac5 L bU ms fr tk bp) ?_;rw [←hn];simp only [T.wp,T.wp_cond,bF,Int.ofNat_eq_natCast,decide_eq_true_eq,and_true,Nat.zero_add];refine ⟨h0,?_⟩;by_cases c:n=0
 ·have e:L.drop fr.toNat=[]:=List.length_eq_zero_iff.1 (by rw [hlen,c]);rw [e];exact aq (by omega) (by first | rfl | trivial)
 refine ap (by omega) ?_;have mB:fr.toNat < L.length:=by omega
 have hql:(L.getD fr.toNat []).length=tk.length:=h1 _ (F.nu mB);refine af.open 0 fr.toNat rfl mB rfl ?_;refine af.weaken (bg:=zC L bU ms fr tk bp n fr.toNat (L.getD fr.toNat [])) (fun a w hR=>hR) ?_;generalize L.getD fr.toNat []=q at*;have hn5:n≤20:=by rw [←hlen];exact h3.2.2.2
 refine af.go (cfg:=cO) cH mixed qV 400 hb (U8 L bU ms fr tk bp n fr.toNat q) ?_;simp only [T.wp,bF,Int.ofNat_eq_natCast];refine ⟨⟨by omega,by omega⟩,⟨by simp,mB⟩,?_⟩;rw [hql];refine af.close 0 rfl ?_;have rs:List.take n (List.drop fr.toNat L)=L.drop fr.toNat:=List.take_of_length_le (by omega)
 have hC:∀x k,1≤x→x≤n→1≤k→k≤tk.length+n→0≤F.cB (List.take n (List.drop fr.toNat L)) tk.length ms tk x k∧F.cB (List.take n (List.drop fr.toNat L)) tk.length ms tk x k≤F.BB:=fun x k x1 x2 _ _=>by
  rw [rs];exact F.TB h3 (i:=x - 1) (by omega) (k - 1)
 refine af.weaken (bg:=zD L bU ms fr tk bp n q) (fun a w hR=>hR) ?_;refine af.go (cfg:=cO) cH mixed qW 400 hb (U9 L bU ms fr tk bp n q) ?_
 have A:=agU L bU ms fr tk bp n q (tk.length+n) b0 hb (F.vZ ms (L.drop fr.toNat) tk) ⟨by omega,hn5⟩ rfl h2 h1 (by omega) hC (fun u v row bE O=>by
  rw [rs];have I:=O.O.inv;rw [rs] at I;have key:=F.PO h3 (u:=F.gI u) (v:=F.gI v) (row:=F.gN row) (by rw [hlen];exact I);rw [hlen] at key;exact (F.Vf key.1 key.2).symm) n 0 (by omega) _ _ _ _ (F.vu.start hC)
 have e1:((n:Int)+1).toNat=n+1:=by omega
 have e2:((tk.length:Int)+(n:Int)+1).toNat=tk.length+n+1:=by omega
 simp only [T.wp,bF,Int.ofNat_eq_natCast,and_true,e1,e2];have i1:ae ((tk.length:Int)+n):=by unfold ae;omega
 have i2:ae ((n:Int)+1):=by unfold ae;omega
 have i3:ae ((tk.length:Int)+n+1):=by unfold ae;omega
 have z1:(0:Int)≤(n:Int)+1∧(n:Int)+1≤1000000:=by omega
 have z2:(0:Int)≤(tk.length:Int)+n+1∧(tk.length:Int)+n+1≤1000000:=by omega
 exact ⟨i1,i2,z1,i3,z2,i3,z2,i3,z2,A⟩
noncomputable def Wq:aH cod:=fun args H=>match args,H with
 | [.c (.ai 0 oU qm _),.c (.int .i64 ms),.c (.int .i64 fr),.c (.ai 1 adH adI _)],[o0,o1]=>(match o0.oV 0 with | some L=>(match o1.cV 3 with | some tk=>.aa ((oU=0∧qm=List.length L)∧(adH=0∧adI=List.length tk)∧(0≤fr∧fr≤(List.length L:Int))∧(F.fg L tk)∧(List.length tk≤32)∧(F.Zy (L.drop fr.toNat) ms tk)) (.ret (.c (.int .i64 (F.vZ ms (L.drop fr.toNat) tk)),[])) | none=>.fail) | none=>.fail)
 | _,_=>.fail
theorem PN:Sound Tryz.prog cod 63 Wq:=ax (cfg:=cO) cH mixed Tryz.func63 rfl rfl _ fun args H r news hg b0 hb=>by
 unfold Wq at hg;split at hg
 ·skip
  split at hg
  ·rename_i L gG;cases fM gG;split at hg
   ·rename_i tk yo;cases aR yo;simp only [T.ah,T.wp,Prod.mk.injEq] at hg;obtain ⟨⟨⟨rfl,rfl⟩,⟨rfl,rfl⟩,q2,q3,q4,q5⟩,rfl,rfl⟩:=hg;exact Zh _ _ _ _ _ _ b0 hb (by assumption) (by assumption) (by assumption) (by assumption)
   ·exact hg.elim
  ·exact hg.elim
 ·exact hg.elim
noncomputable def Sm:aQ cod:=(63,.p Wq)::IN
noncomputable def RP:aT cod:=c9 Sm
theorem wS:cv Tryz.prog cod Sm:=.cons PN cH
end
end
end Go.Proofs.YtcjagpfbhnmggaaGreatDoor
