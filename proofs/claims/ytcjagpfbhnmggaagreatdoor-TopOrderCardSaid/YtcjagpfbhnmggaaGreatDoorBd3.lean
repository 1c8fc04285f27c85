/- Parts of the proof. -/
import Derived.Test.YtcjagpfbhnmggaaGreatDoorBd2
namespace Go.Proofs.YtcjagpfbhnmggaaGreatDoor
namespace Sym
open Go.RowKit
section
variable {P:Program} {env:Env} {N:Nat}
def eh (P:Program) (t:TypeId) (vs:List Value):Value:=if dm P t then .agg vs.toArray else vs.getD 0 undef
theorem ga (t:TypeId) (w:World) (h:(P.underlying t).isSome=true):(isAgg t).run P w= .ok (dm P t) w:=by
 obtain ⟨d,hd⟩:=Option.isSome_iff_exists.1 h;unfold isAgg dm;simp only [Sem.run_bind,run_underlying hd,Result.andThen_ok,hd];cases d<;>rfl
theorem bL {t:TypeId} (h:(P.info? t).isSome=true) (w:World):(sizeOf t).run P w= .ok (P.cellsOf t) w:=by
 obtain ⟨i,hi⟩:=Option.isSome_iff_exists.1 h;simp [sizeOf,typeInfo,hi,Program.cellsOf]
theorem jX {t:TypeId} (h:(P.underlying t).isSome=true):(P.info? t).isSome=true:=by
 unfold Program.underlying at h
 cases hi:P.info? t with
 | none=>simp [hi] at h
 | some i=>rfl
theorem eB {cs:List Cell} {vs:List Value} (h:ct env N cs vs) (o n:Nat):ct env N ((cs.drop o).take n) ((vs.drop o).take n):=vT n (Dj o h)
theorem Di (vs:List Value) (o n:Nat):vs.toArray.extract o (o+n)=((vs.drop o).take n).toArray:=by
 simp [List.extract_toArray,Nat.add_sub_cancel_left]
theorem rK (t:TypeId) (vs:List Value) (off:Nat) (w:World) (hu:(P.underlying t).isSome=true) (h1:dm P t=false→off < vs.length∧P.cellsOf t=1):
 (part t vs.toArray off).run P w= .ok (eh P t ((vs.drop off).take (P.cellsOf t))) w:=by
 unfold part eh;simp only [Sem.run_bind,ga t w hu,Result.andThen_ok]
 cases ha:dm P t with
 | true=>simp only [if_true,Sem.run_bind,bL (jX hu),Result.andThen_ok,Sem.run_pure,Di]
 | false=>
   obtain ⟨hl,hc⟩:=h1 ha;simp only [Bool.false_eq_true,if_false,hc,List.getElem?_toArray,List.getElem?_eq_getElem hl,Sem.run_pure];rw [List.drop_eq_getElem_cons hl];rfl
theorem xX {rec:TypeId→List Cell→List Cell→Option Bool} {d:Nat} (afb:∀(t:TypeId) (cs ds:List Cell) (b:Bool) (us vs:List Value),rec t cs ds=some b→ct env N cs us→ct env N ds vs→
 (P.underlying t).isSome=true∧(dm P t=false→cs.length=1∧ds.length=1)∧∀w,(Op.equalIn d t (eh P t us) (eh P t vs)).run P w= .ok b w)
 (cs ds:List Cell) (us vs:List Value) (hu:ct env N cs us) (hv:ct env N ds vs):∀(fs:List Field) (b:Bool),JN rec P cs ds fs=some b→
   ∀w,(Op.eqFields d us.toArray vs.toArray fs).run P w= .ok b w
 | [],b,h,w=>by simp [JN] at h;subst h;rfl
 | f::fs,b,h,w=>by
   unfold JN at h;split at h
   ·cases h
   ·rename_i Kf;rw [not_or] at Kf;obtain ⟨jJ,kW⟩:=Kf
    have kW:dm P f.type=false→P.cellsOf f.type=1:=fun ha=>by
     rcases Nat.decEq (P.cellsOf f.type) 1 with h1 | h1
     ·exact absurd ⟨h1,ha⟩ kW
     ·exact h1
    split at h
    ·cases h
    ·rename_i b1 Ng;obtain ⟨k1,k2,k3⟩:=afb _ _ _ _ _ _ Ng (eB hu f.offset _) (eB hv f.offset _)
     have hlen:∀(xs:List Cell) (ys:List Value),ct env N xs ys→((xs.drop f.offset).take (P.cellsOf f.type)).length=1→f.offset < ys.length:=fun xs ys hh h1=>by
      have:=cq hh;rw [List.length_take,List.length_drop] at h1;omega
     have hp1:(part f.type us.toArray f.offset).run P w= .ok (eh P f.type ((us.drop f.offset).take (P.cellsOf f.type))) w:=
      rK f.type us f.offset w k1 fun ha=>⟨hlen cs us hu (k2 ha).1,kW ha⟩
     have hp2:(part f.type vs.toArray f.offset).run P w= .ok (eh P f.type ((vs.drop f.offset).take (P.cellsOf f.type))) w:=
      rK f.type vs f.offset w k1 fun ha=>⟨hlen ds vs hv (k2 ha).2,kW ha⟩
     simp only [Op.eqFields,ne_eq,jJ,not_false_eq_true,if_true,Sem.run_bind,hp1,Result.andThen_ok,hp2,k3]
     cases b1 with
     | false=>
       simp only [Bool.not_false,if_true,Sem.run_pure]
       cases fs with
       | nil=>simp at h;subst h;rfl
       | cons g fs=>
         cases hq:JN rec P cs ds (g::fs) with
         | none=>simp [hq] at h
         | some c=>simp [hq] at h;subst h;rfl
     | true=>
       simp only [Bool.not_true,Bool.false_eq_true,if_false]
       cases fs with
       | nil=>simp at h;subst h;rfl
       | cons g fs=>
         cases hq:JN rec P cs ds (g::fs) with
         | none=>simp [hq] at h
         | some c=>
           simp [hq] at h;subst h;exact xX afb cs ds us vs hu hv _ _ hq w
theorem od:∀(d D:Nat),d≤D→∀(t:TypeId) (cs ds:List Cell) (b:Bool) (us vs:List Value),eqT P d t cs ds=some b→ct env N cs us→ct env N ds vs→
 (P.underlying t).isSome=true∧(dm P t=false→cs.length=1∧ds.length=1)∧∀w,(Op.equalIn D t (eh P t us) (eh P t vs)).run P w= .ok b w
 | 0,_,_,_,_,_,_,_,_,h,_,_=>by cases h
 | d+1,0,hD,_,_,_,_,_,_,_,_,_=>by omega
 | d+1,D+1,hD,t,cs,ds,b,us,vs,h,hu,hv=>by
   unfold eqT at h;split at h
   ·rename_i ht;split at h
    ·rename_i a c;simp at h;subst h;have Gj:dm P t=false:=by simp [dm,ht]
     cases hu with
     | cons DE Gr=>
       cases Gr
       cases hv with
       | cons qp hv2=>
         cases hv2;have e1:=DE;have e2:=qp;simp only [bZ] at e1 e2;subst e1 e2;exact ⟨by rw [ht];rfl,fun _=>⟨rfl,rfl⟩,fun w=>by simp only [eh,Gj];exact run_equalIn_bool' w D t a c ht⟩
    ·cases h
   ·rename_i kd ht;split at h
    ·rename_i k a k' c;split at h
     ·rename_i hk;subst hk;simp at h;subst h;have Gj:dm P t=false:=by simp [dm,ht]
      cases hu with
      | cons DE Gr=>
        cases Gr
        cases hv with
        | cons qp hv2=>
          cases hv2;have e1:=DE;have e2:=qp;simp only [bZ] at e1 e2;subst e1 e2
          exact ⟨by rw [ht];rfl,fun _=>⟨rfl,rfl⟩,fun w=>by
           simp only [eh,Gj];have:=run_equalIn_int (P:=P) w D t k kd a c ht;rw [iR] at this;exact this⟩
     ·cases h
    ·cases h
   ·rename_i ht;split at h
    ·rename_i a c;simp at h;subst h;have Gj:dm P t=false:=by simp [dm,ht]
     cases hu with
     | cons DE Gr=>
       cases Gr
       cases hv with
       | cons qp hv2=>
         cases hv2;have e1:=DE;have e2:=qp;simp only [bZ] at e1 e2;subst e1 e2
         exact ⟨by rw [ht];rfl,fun _=>⟨rfl,rfl⟩,fun w=>by
          simp only [eh,Gj];have:=run_equalIn_string (P:=P) w D t ⟨a.toArray⟩ ⟨c.toArray⟩ ht;rw [lL,lL,iR] at this;exact this⟩
    ·cases h
   ·rename_i fs ht;split at h
    ·cases h
    ·rename_i Gq;have Gj:dm P t=true:=by simp [dm,ht]
     refine ⟨by rw [ht];rfl,fun hh=>(by rw [Gj] at hh;cases hh),fun w=>?_⟩;have hf:P.fieldsOf t=fs:=by simp [Program.fieldsOf,ht]
     simp only [eh,Gj,if_true];rw [run_equalIn_struct w D t us.toArray vs.toArray (by rw [hf];exact ht) (by simpa using Gq),hf];refine xX (fun t cs ds b us vs=>od d D (by omega) t cs ds b us vs) cs ds us vs hu hv fs.toList b h w
   ·cases h
theorem Pb {op:BinOp} {k k':FloatKind} {a b:Nat} {r:SV} (h:(YE op k k' a b).ah r) (t:TypeId) (X Y:Operand):
 ∃gU,(∀w,(do eqGuard op t X Y (.float k a) (.float k' b);binOp op t (.float k a) (.float k' b):Sem Value).run P w= .ok gU w)∧aS env N r gU:=by
 unfold YE at h;split at h
 ·rename_i hk;subst hk;have hg:∀w,(eqGuard op t X Y (.float k a) (.float k b)).run P w= .ok () w:=fun w=>by cases op<;>simp [eqGuard]
  simp only [Sem.run_bind,hg,Result.andThen_ok];split at h
  case h_7=>
   rw [T.ak,T.ad] at h;obtain ⟨hs,rfl⟩:=h;obtain ⟨q,hq⟩:=Option.isSome_iff_exists.1 hs;refine ⟨.float k q,fun w=>run_float_arith w .mul t k a b q hq,?_⟩;unfold F.aG;rw [hq];rfl
  case h_11=>exact h.elim
  case h_8 | h_9 | h_10=>
   rw [T.ak,T.ad] at h;obtain ⟨hs,rfl⟩:=h;obtain ⟨q,hq⟩:=Option.isSome_iff_exists.1 hs;refine ⟨.float k q,fun w=>run_float_arith w _ t k a b q hq,?_⟩;unfold F.bK;rw [hq];rfl
  all_goals
   rw [cM,T.ad] at h;subst h;exact ⟨_,fun w=>by simp [binOp,Op.floatCmp,F.iO,F.Dp,F.nl];try rfl,rfl⟩
 ·exact h.elim
theorem C3 {wrap:Bool} {op:BinOp} {t:TypeId} {x y r:SV} {u v:Value} (h:(qJ P wrap op t x y).ah r) (hx:aS env N x u) (hy:aS env N y v) (X Y:Operand):
 ∃gU,(∀w,(do eqGuard op t X Y u v;binOp op t u v:Sem Value).run P w= .ok gU w)∧aS env N r gU:=by
 unfold qJ at h;split at h
 ·rename_i k a k' b;have hu:u= .int k a:=hx;have hv:v= .int k' b:=hy;obtain ⟨gU,h1,h2⟩:=xq (P:=P) h hx hy t (.inl ⟨k,a,hu⟩);refine ⟨gU,fun w=>?_,h2⟩;subst hu hv;have hg:(eqGuard op t X Y (.int k a) (.int k' b)).run P w= .ok () w:=by cases op<;>simp [eqGuard]
  simp only [Sem.run_bind,hg,Result.andThen_ok,h1]
 ·rename_i a b;have hu:u= .string ⟨a.toArray⟩:=hx;have hv:v= .string ⟨b.toArray⟩:=hy;obtain ⟨gU,h1,h2⟩:=xq (P:=P) h hx hy t (.inr ⟨_,hu⟩);refine ⟨gU,fun w=>?_,h2⟩;subst hu hv;have hg:(eqGuard op t X Y (.string ⟨a.toArray⟩) (.string ⟨b.toArray⟩)).run P w= .ok () w:=by cases op<;>simp [eqGuard]
  simp only [Sem.run_bind,hg,Result.andThen_ok,h1]
 ·rename_i k a k' b;have hu:u= .float k a:=hx;have hv:v= .float k' b:=hy;subst hu hv;exact Pb h t X Y
 ·have key:∀b,eqS P t x y=some b→(∀w,(eqGuard .eql t X Y u v).run P w= .ok () w)∧(∀w,(eqGuard .neq t X Y u v).run P w= .ok () w)∧
   (∀w,(binOp .eql t u v).run P w= .ok (.bool b) w)∧(∀w,(binOp .neq t u v).run P w= .ok (.bool (!b)) w):=by
   intro b hb;unfold eqS at hb;split at hb
   ·rename_i xs ys _ _ _;obtain ⟨us,rfl,yl⟩:=hx;obtain ⟨vs,rfl,ym⟩:=hy;split at hb
    ·cases hb
    ·rename_i hc;rw [not_or] at hc;obtain ⟨hg,ha⟩:=hc;have hg:P.eqGuardType P.depth t=false:=by simpa using hg
     have ha:dm P t=true:=by simpa using ha
     obtain ⟨_,_,k3⟩:=od 8 10000 (by omega) t xs ys b us.toList vs.toList hb yl ym;simp only [eh,ha,if_true,Array.toArray_toList] at k3;exact ⟨fun w=>run_eqGuard_agg w .eql t X Y us vs hg,fun w=>run_eqGuard_agg w .neq t X Y us vs hg,fun w=>by rw [run_eql_struct,k3];rfl,fun w=>by rw [run_neq_struct,k3];rfl⟩
   ·split at hb
    ·rename_i a c ha hc;have e1:=pO ha hx;have e2:=pO hc hy;subst e1 e2;split at hb
     ·rename_i ht;simp only [Option.some.injEq] at hb;subst hb;exact ⟨fun w=>by simp [eqGuard],fun w=>by simp [eqGuard],fun w=>run_eql_bool w t a c ht,fun w=>run_neq_bool w t a c ht⟩
     ·cases hb
    ·cases hb
  have aft:∀p b,Zs P t x y=some (p,b)→p→(∀w,(eqGuard .eql t X Y u v).run P w= .ok () w)∧(∀w,(eqGuard .neq t X Y u v).run P w= .ok () w)∧
   (∀w,(binOp .eql t u v).run P w= .ok (.bool b) w)∧(∀w,(binOp .neq t u v).run P w= .ok (.bool (!b)) w):=by
   intro p b hb hp
   have ai:∀e (A:Option Addr) (n c:Nat),P.underlying t=some (.slice e)→(∀w,(eqGuard .eql t X Y (.slice A n c) (.slice none 0 0)).run P w= .ok () w)∧(∀w,(eqGuard .neq t X Y (.slice A n c) (.slice none 0 0)).run P w= .ok () w)∧
    (∀w,(binOp .eql t (.slice A n c) (.slice none 0 0)).run P w= .ok (.bool A.isNone) w)∧(∀w,(binOp .neq t (.slice A n c) (.slice none 0 0)).run P w= .ok (.bool (!A.isNone)) w):=fun e A n c ht=>by
    have h1:∀w d,(Op.equalIn (d+1) t (.slice A n c) (.slice none 0 0)).run P w= .ok A.isNone w:=fun w d=>by cases A<;>simp [Op.equalIn,run_underlying ht]
    have h2:∀w,(Op.equal t (.slice A n c) (.slice none 0 0)).run P w= .ok A.isNone w:=fun w=>h1 w 9999;exact ⟨fun w=>by simp [eqGuard],fun w=>by simp [eqGuard],fun w=>by simp [binOp,h2],fun w=>by simp [binOp,h2]⟩
   have ptr:∀e (A:Option Addr),P.underlying t=some (.pointer e)→(∀w,(eqGuard .eql t X Y (.pointer A) (.pointer none)).run P w= .ok () w)∧(∀w,(eqGuard .neq t X Y (.pointer A) (.pointer none)).run P w= .ok () w)∧
    (∀w,(binOp .eql t (.pointer A) (.pointer none)).run P w= .ok (.bool A.isNone) w)∧(∀w,(binOp .neq t (.pointer A) (.pointer none)).run P w= .ok (.bool (!A.isNone)) w):=fun e A ht=>by
    have h1:∀w d,(Op.equalIn (d+1) t (.pointer A) (.pointer none)).run P w= .ok A.isNone w:=fun w d=>by cases A<;>simp [Op.equalIn,run_underlying ht]
    have h2:∀w,(Op.equal t (.pointer A) (.pointer none)).run P w= .ok A.isNone w:=fun w=>h1 w 9999;exact ⟨fun w=>by simp [eqGuard],fun w=>by simp [eqGuard],fun w=>by simp [binOp,h2],fun w=>by simp [binOp,h2]⟩
   unfold Zs at hb;split at hb
   ·rename_i e ht;split at hb
    ·rename_i k i n tt _ _ _;simp only [Option.some.injEq,Prod.mk.injEq] at hb;obtain ⟨rfl,rfl⟩:=hb;obtain ⟨_,A,c,rfl,_,_,_,hA⟩:=hx;have hv:v= .slice none 0 0:=hy;subst hv;have:=ai e A n c ht;rw [hA hp] at this ⊢;exact this
    ·rename_i k n _ _ _;simp only [Option.some.injEq,Prod.mk.injEq] at hb;obtain ⟨rfl,rfl⟩:=hb;obtain ⟨_,_,A,c,rfl,_,_,hA⟩:=hx;have hv:v= .slice none 0 0:=hy;subst hv;have:=ai e A n c ht;rw [hA hp] at this ⊢;exact this
    ·simp only [Option.some.injEq,Prod.mk.injEq] at hb;obtain ⟨rfl,rfl⟩:=hb;have hu:u= .slice none 0 0:=hx;have hv:v= .slice none 0 0:=hy;subst hu hv;exact ai e none 0 0 ht
    ·cases hb
   ·rename_i e ht;split at hb
    ·simp only [Option.some.injEq,Prod.mk.injEq] at hb;obtain ⟨rfl,rfl⟩:=hb;obtain ⟨_,rfl⟩:=hx;have hv:v= .pointer none:=hy;subst hv;exact ptr e (some _) ht
    ·simp only [Option.some.injEq,Prod.mk.injEq] at hb;obtain ⟨rfl,rfl⟩:=hb;have hu:u= .pointer none:=hx;have hv:v= .pointer none:=hy;subst hu hv;exact ptr e none ht
    ·cases hb
   ·cases hb
  split at h
  ·split at h
   ·rename_i b hb;obtain ⟨k1,k2,k3,k4⟩:=key b hb;simp only [cM,T.ad] at h;subst h;exact ⟨.bool b,fun w=>by simp only [Sem.run_bind,k1,Result.andThen_ok,k3],rfl⟩
   ·split at h
    ·rename_i p b hb;rw [T.ak] at h;obtain ⟨hp,h⟩:=h;obtain ⟨k1,k2,k3,k4⟩:=aft p b hb hp;simp only [cM,T.ad] at h;subst h;exact ⟨.bool b,fun w=>by simp only [Sem.run_bind,k1,Result.andThen_ok,k3],rfl⟩
    ·exact h.elim
  ·split at h
   ·rename_i b hb;obtain ⟨k1,k2,k3,k4⟩:=key b hb;simp only [cM,T.ad] at h;subst h;exact ⟨.bool (!b),fun w=>by simp only [Sem.run_bind,k2,Result.andThen_ok,k4],rfl⟩
   ·split at h
    ·rename_i p b hb;rw [T.ak] at h;obtain ⟨hp,h⟩:=h;obtain ⟨k1,k2,k3,k4⟩:=aft p b hb hp;simp only [cM,T.ad] at h;subst h;exact ⟨.bool (!b),fun w=>by simp only [Sem.run_bind,k2,Result.andThen_ok,k4],rfl⟩
    ·exact h.elim
  ·exact h.elim
theorem Xc {wrap:Bool} {op:UnOp} {x r:SV} {u:Value} (h:(unS wrap op x).ah r) (hx:aS env N x u):∃gU,(∀w,(Op.unary op u).run P w= .ok gU w)∧aS env N r gU:=by
 unfold unS at h;split at h
 ·rename_i k n;have hu:u= .int k n:=hx;subst hu;exact ⟨.int k (k.wrap (-n)),fun w=>by simp [Op.unary,Op.intArith],je h⟩
 ·rename_i k b;have hu:u= .float k b:=hx;subst hu;rw [T.ad] at h;subst h;exact ⟨.float k (Op.negFloat k b),fun w=>by simp [Op.unary],rfl⟩
 ·split at h
  ·rename_i b hb;have e:=pO hb hx;subst e;simp only [cM,T.ad] at h;subst h;exact ⟨.bool (!b),fun w=>by simp [Op.unary],rfl⟩
  ·exact h.elim
 ·exact h.elim
theorem yJ {t:TypeId} {cs:List Cell} {vs:List Value} {off:Nat} {r:SV} (h:(BR P t cs off).ah r) (hv:ct env N cs vs) (hu:(P.underlying t).isSome=true):
 ∃gU,(∀w,(part t vs.toArray off).run P w= .ok gU w)∧aS env N r gU:=by
 unfold BR at h;split at h
 ·rename_i ha;rw [T.ad] at h;subst h;refine ⟨.agg ((vs.drop off).take (P.cellsOf t)).toArray,fun w=>?_,⟨_,rfl,by simpa using eB hv off _⟩⟩;have:=rK t vs off w hu (fun hh=>by rw [ha] at hh;cases hh);simpa [eh,ha] using this
 ·rename_i ha;split at h
  ·rename_i c hc;rw [T.ad] at h;subst h;obtain ⟨u,h1,h2⟩:=pW hv hc;refine ⟨u,fun w=>?_,h2⟩;unfold part;simp only [Sem.run_bind,ga t w hu,Result.andThen_ok,ha,Bool.false_eq_true,if_false,List.getElem?_toArray,h1,Sem.run_pure]
  ·exact h.elim
theorem Jz {wrap:Bool} {s d:TypeId} {x r:SV} {u:Value} (h:(Tp P wrap s d x).ah r) (hx:aS env N x u):∃gU,(∀w,(convert s d u).run P w= .ok gU w)∧aS env N r gU:=by
 unfold Tp at h;split at h
 ·rename_i sd k k0 n hs hd;have hu:u= .int k0 n:=hx;subst hu;refine ⟨.int k (k.wrap n),fun w=>?_,je h⟩;simp [convert,run_underlying hs,run_underlying hd,Conv.intToInt]
 ·rename_i sd b hs hd;have hu:u= .string ⟨b.toArray⟩:=hx;subst hu;rw [T.ad] at h;subst h;refine ⟨_,fun w=>?_,rfl⟩;simp [convert,run_underlying hs,run_underlying hd]
 ·rename_i sd k k0 n hs hd;have hu:u= .int k0 n:=hx;subst hu;rw [T.ad] at h;subst h;refine ⟨.float k (k.nearest n),fun w=>?_,rfl⟩;simp [convert,run_underlying hs,run_underlying hd,Conv.intToFloat]
 ·rename_i sd k s0 b hs hd;have hu:u= .float s0 b:=hx;subst hu;rw [T.ak,T.ad] at h;obtain ⟨hq,rfl⟩:=h;obtain ⟨q,hq⟩:=Option.isSome_iff_exists.1 hq;refine ⟨.int k q,fun w=>run_convert_float_int w _ _ s0 k b q (by rw [hs];rfl) hd hq,?_⟩;unfold F.EV;rw [hq];rfl
 ·exact h.elim
end
end Sym
namespace Sym
open Go.RowKit
section
variable {cod:Nat→aO} {P:Program} {env:Env}
theorem dt {H:Heap cod} {h:Nat} (hd:getObj H h≠.dead):H[h]? =some (getObj H h):=by
 unfold getObj at*;rcases Nat.lt_or_ge h H.length with hl | hl
 ·simp [List.getD,List.getElem?_eq_getElem hl]
 ·simp [List.getD,List.getElem?_eq_none hl] at hd
theorem aE {H:Heap cod} {h:Nat} {o:av cod} (ho:getObj H h=o) (hd:o≠.dead):H[h]? =some o:=by
 subst ho;exact dt hd
theorem dp (x:HV) (i o j:Nat):(x.addr i o).add j=x.addr i (o+j):=by
 unfold HV.addr Addr.add;split
 ·rename_i e;subst e;rfl
 ·simp [Nat.add_assoc]
theorem dR {w:World} {M:Nat→Prop} {N:Nat} {x:HV} {o:av cod} {t:Nat} {ty:TypeId} {l:List (cod t).α} (ho:bH env N x w M o) (hr:o= .arr t l ty∨o= .own t l ty∨o= .aB t l):x.fE=(cod t).size∧reads w x (aN (cod t) l):=by
 rcases hr with rfl | rfl | rfl
 ·obtain ⟨h1,h2,h3,h4⟩:=ho;refine ⟨h2,fun j u hu=>?_⟩;rw [h1,Nat.zero_add,cell_of_row w x.block j _ _ _ h4];simpa using hu
 ·obtain ⟨h1,h2,h3,h4,h5⟩:=ho;refine ⟨h2,fun j u hu=>?_⟩;rcases h3.2 with ⟨hv,hn⟩ | ⟨g,cap,eW,hv,hb,hg,_⟩
  ·have:l=[]:=List.eq_nil_of_length_eq_zero hn;subst this;simp [aN] at hu
  ·have e:=h5 _ _ _ hv;simp only [Addr.mk.injEq,and_true] at e;have:=h3.cells (g:=g) (by simp [hv,Value.ownBlock]) j u hu;rw [h1,Nat.zero_add,←e];have yf:(⟨g,0,none⟩:Addr).add j=⟨g,j,none⟩:=by unfold Addr.add;split<;>simp_all
   rwa [yf] at this
 ·exact ⟨ho.1,ho.2.1⟩
theorem QM {N i o n:Nat} {x:HV} {w:World} {pre post:List Cell} {t m:Nat} {l:List (cod t).α} {cs:List Cell} (_:x.off=0) (h2:x.fE=(cod t).size) (h5:l.length=m) (h6:(pre++post).all Cell.scalar=true)
 (hr:reads w x (pre.map Cell.val++(aN (cod t) l++post.map Cell.val)))
 (hg:(if pre.length≤o∧o+n≤pre.length+(cod t).size then T.aa (i < m) (.ret ((((cod t).enc (l.getD i (cod t).d)).drop (o - pre.length)).take n))
 else if i=0∧o+n≤pre.length∧((pre.drop o).take n).all Cell.scalar=true then .ret ((pre.drop o).take n)
 else if i=0∧o=pre.length∧n=m*(cod t).size then .ret (l.flatMap (cod t).enc)
 else if i=0∧pre.length+m*(cod t).size≤o∧o+n≤pre.length+m*(cod t).size+post.length∧((post.drop (o - (pre.length+m*(cod t).size))).take n).all Cell.scalar=true then .ret ((post.drop (o - (pre.length+m*(cod t).size))).take n)
 else .fail:T (List Cell)).ah cs):
 cs.length=n∧∃vs:List Value,ct env N cs vs∧∀j u,vs[j]? =some u→w.cell? ((x.addr i o).add j)=some u:=by
 rw [List.all_append,Bool.and_eq_true] at h6;have UD:=bB (cod t) l
 have seg:∀(k:Nat),k=i*(cod t).size+o→cs.length=n→cs.all Cell.scalar=true→(∀j,j < n→(pre.map Cell.val++(aN (cod t) l++post.map Cell.val))[k+j]? =(cs.map Cell.val)[j]?)→
  cs.length=n∧∃vs:List Value,ct env N cs vs∧∀j u,vs[j]? =some u→w.cell? ((x.addr i o).add j)=some u:=by
  intro k hk hlen BD aia;refine ⟨hlen,cs.map Cell.val,gd BD,fun j u hu=>?_⟩
  have hj:j < n:=by
   have:=(List.getElem?_eq_some_iff.1 hu).1;rw [List.length_map] at this;omega
  have:=hr (k+j) u (by rw [aia j hj,hu])
  have e:x.addr i (o+j)=⟨x.block,x.off+(k+j),none⟩:=by
   unfold HV.addr;rw [h2,hk,Nat.add_assoc]
  rw [dp,e];exact this
 have sub:∀{ys:List Cell} (p:Nat),ys.all Cell.scalar=true→((ys.drop p).take n).all Cell.scalar=true:=fun p h=>by
  rw [List.all_eq_true] at h ⊢;exact fun c hc=>h c (List.mem_of_mem_drop (List.mem_of_mem_take hc))
 have piece:∀(ys:List Cell) (p j:Nat),j < n→(((ys.drop p).take n).map Cell.val)[j]? =(ys.map Cell.val)[p+j]? :=fun ys p j hj=>by
  rw [List.getElem?_map,List.getElem?_take,if_pos hj,List.getElem?_drop,List.getElem?_map]
 split at hg
 ·rename_i hc;rw [T.ak,T.ad] at hg;obtain ⟨hi,rfl⟩:=hg
  have mB:i*(cod t).size+(cod t).size≤l.length*(cod t).size:=by
   have:(i+1)*(cod t).size≤l.length*(cod t).size:=Nat.mul_le_mul_right _ (by omega)
   rwa [Nat.add_mul,Nat.one_mul] at this
  refine seg _ rfl (by rw [List.length_take,List.length_drop,(cod t).size_eq];omega) (sub _ ((cod t).l3 _)) fun j hj=>?_;rw [piece _ _ j hj,List.getElem?_append_right (by rw [List.length_map];omega),List.length_map,List.getElem?_append_left (by omega)];rw [show i*(cod t).size+o+j - pre.length=i*(cod t).size+(o - pre.length+j) by omega,r9 (cod t) l i _ (by omega) (by omega),List.getElem?_map]
 ·split at hg
  ·rename_i hc;rw [T.ad] at hg;subst hg;obtain ⟨rfl,hc,_⟩:=hc;refine seg o (by omega) (by rw [List.length_take,List.length_drop];omega) (sub _ h6.1) fun j hj=>?_;rw [piece _ _ j hj,List.getElem?_append_left (by rw [List.length_map];omega)]
  ·split at hg
   ·rename_i hc;rw [T.ad] at hg;subst hg;obtain ⟨rfl,rfl,rfl⟩:=hc;refine seg pre.length (by omega) (by rw [jF,h5]) (gD _ _) fun j hj=>?_;rw [List.getElem?_append_right (by rw [List.length_map];omega),List.length_map,Nat.add_sub_cancel_left,List.getElem?_append_left (by rw [UD,h5];exact hj)];rfl
   ·split at hg
    ·rename_i hc;rw [T.ad] at hg;subst hg;obtain ⟨rfl,vA,kU,_⟩:=hc;refine seg o (by omega) (by rw [List.length_take,List.length_drop];omega) (sub _ h6.2) fun j hj=>?_;rw [piece _ _ j hj,List.getElem?_append_right (by rw [List.length_map];omega),List.length_map,List.getElem?_append_right (by rw [UD,h5];omega),UD,h5];congr 1;omega
    ·exact hg.elim
theorem yx {H:Heap cod} {w:World} {M:Nat→Prop} {h i o n:Nat} {cs:List Cell} (hl:(fH H h i o n).ah cs) (G:Good env H w M):
 cs.length=n∧∃vs:List Value,ct env H.length cs vs∧∀j u,vs[j]? =some u→w.cell? (((env h).addr i o).add j)=some u:=by
 have aF:∀(c0:List Cell) (x:HV) (vs:List Value),x=env h→x.off=0→reads w x vs→ct env H.length c0 vs→(if i=0∧o+n≤c0.length then T.ret ((c0.drop o).take n) else T.fail:T (List Cell)).ah cs→
  cs.length=n∧∃vs:List Value,ct env H.length cs vs∧∀j u,vs[j]? =some u→w.cell? (((env h).addr i o).add j)=some u:=by
  intro c0 x vs hx YX hr hc hg;split at hg
  ·rename_i yi;obtain ⟨rfl,hle⟩:=yi;rw [T.ad] at hg;subst hg;refine ⟨by rw [List.length_take,List.length_drop];omega,(vs.drop o).take n,eB hc o n,fun j u hu=>?_⟩;rw [List.getElem?_take] at hu;split at hu
   ·rw [List.getElem?_drop] at hu;rw [dp,←hx];have:=hr _ u hu;unfold HV.addr;rw [Nat.zero_mul,Nat.zero_add];exact this
   ·cases hu
  ·exact hg.elim
 have row:∀(t:Nat) (l:List (cod t).α),(env h).fE=(cod t).size→reads w (env h) (aN (cod t) l)→
  (if o+n≤(cod t).size then T.aa (i < l.length) (T.ret ((((cod t).enc (l.getD i (cod t).d)).drop o).take n)) else if i=0∧o=0 then T.aa (l.length*(cod t).size=n) (T.ret (l.flatMap (cod t).enc)) else T.fail:T (List Cell)).ah cs→
  cs.length=n∧∃vs:List Value,ct env H.length cs vs∧∀j u,vs[j]? =some u→w.cell? (((env h).addr i o).add j)=some u:=by
  intro t l he hr hg;split at hg
  ·rename_i hle;rw [T.ak,T.ad] at hg;obtain ⟨hi,rfl⟩:=hg;refine ⟨by rw [List.length_take,List.length_drop,(cod t).size_eq];omega,(((cod t).enc (l.getD i (cod t).d)).map Cell.val |>.drop o).take n,eB (gd ((cod t).l3 _)) o n,fun j u hu=>?_⟩;rw [List.getElem?_take] at hu;split at hu
   ·rename_i hj;rw [List.getElem?_drop,List.getElem?_map,←r9 (cod t) l i (o+j) hi (by omega)] at hu;rw [dp];unfold HV.addr;rw [he];exact hr _ u hu
   ·cases hu
  ·split at hg
   ·rename_i hz;obtain ⟨rfl,rfl⟩:=hz;rw [T.ak,T.ad] at hg;obtain ⟨hlen,rfl⟩:=hg;refine ⟨by rw [jF,hlen],aN (cod t) l,gd (gD _ _),fun j u hu=>?_⟩;rw [dp];unfold HV.addr;rw [Nat.zero_mul,Nat.zero_add,Nat.zero_add];exact hr j u hu
   ·exact hg.elim
 unfold fH at hl
 cases ho:getObj H h with
 | aF c0 ty=>
   rw [ho] at hl;obtain ⟨h1,h2,vs,h3,h4⟩:=G.obj h _ (aE ho (by simp))
   exact aF c0 (env h) vs rfl h1 (fun j u hu=>by rw [h1,Nat.zero_add,cell_of_row w _ j _ _ _ h3];simpa using hu) h4 hl
 | aY c0=>
   rw [ho] at hl;obtain ⟨h1,h2,vs,h3,h4⟩:=G.obj h _ (aE ho (by simp))
   exact aF c0 (env h) vs rfl h1 h3 h4 hl
 | gL c0=>
   rw [ho] at hl;obtain ⟨h1,h2,vs,h3,h4⟩:=G.obj h _ (aE ho (by simp))
   exact aF c0 (env h) vs rfl h1 h3 h4 hl
 | arr t l ty=>
   rw [ho] at hl;obtain ⟨h1,h2⟩:=dR (ty:=ty) (G.obj h _ (aE ho (by simp))) (.inl rfl)
   exact row t l h1 h2 hl
 | own t l ty=>
   rw [ho] at hl;obtain ⟨h1,h2⟩:=dR (ty:=ty) (G.obj h _ (aE ho (by simp))) (.inr (.inl rfl))
   exact row t l h1 h2 hl
 | aB t l=>
   rw [ho] at hl;obtain ⟨h1,h2⟩:=dR (ty:=0) (G.obj h _ (aE ho (by simp))) (.inr (.inr rfl))
   exact row t l h1 h2 hl
 | iC pre t m l post ty=>
   rw [ho] at hl;obtain ⟨h1,h2,h3,h5,h6,h4⟩:=G.obj h _ (aE ho (by simp))
   exact QM h1 h2 h5 h6 (fun j u hu=>by rw [h1,Nat.zero_add,cell_of_row w _ j _ _ _ h4];simpa using hu) hl
 | cL t LL op=>
   rw [ho] at hl;obtain ⟨h1,vs,h2,h3,h4,h5,h6,h7⟩:=G.obj h _ (aE ho (by simp))
   cases op with
   | none=>exact hl.elim
   | some p=>
     obtain ⟨j,c⟩:=p;simp only at hl;split at hl
     ·rename_i hc;obtain ⟨rfl,rfl⟩:=hc;rw [T.ak,T.ad] at hl;obtain ⟨⟨rfl,hj⟩,rfl⟩:=hl;obtain ⟨v,hv,Rq⟩:=h7 _ rfl;refine ⟨rfl,[v],.cons Rq .nil,fun q u hu=>?_⟩
      cases q with
      | succ q=>simp at hu
      | zero=>
        simp only [List.getElem?_cons_zero,Option.some.injEq] at hu;subst hu;rw [dp];unfold HV.addr;simp only [h1,Nat.mul_one,Nat.add_zero];exact h4 i _ hv
     ·exact hl.elim
 | cj t LL js cs0 ty tyr=>
   rw [ho] at hl;obtain ⟨h1,h2,h3,⟨vs,h4,h5,h6⟩,h7,h8,h9,Ap⟩:=G.obj h _ (aE ho (by simp));simp only at hl;split at hl
   ·rename_i hc;obtain ⟨rfl,rfl⟩:=hc
    have key:∀(EZ:List Nat) (uK:List Cell),(∀(q j:Nat) (c:Cell),EZ[q]? =some j→uK[q]? =some c→∃v,vs[j]? =some v∧bZ env H.length c v)→(BS LL.length i EZ uK).ah cs→∃c v,cs=[c]∧i < LL.length∧vs[i]? =some v∧bZ env H.length c v:=by
     intro EZ
     induction EZ with
     | nil=>intro uK _ hp;cases uK<;>exact hp.elim
     | cons j EZ ih=>
       intro uK hk hp
       cases uK with
       | nil=>cases EZ<;>exact hp.elim
       | cons c uK=>
         have one:j < LL.length→i=j→cs=[c]→∃c v,cs=[c]∧i < LL.length∧vs[i]? =some v∧bZ env H.length c v:=fun hj e pX=>by
          subst e;obtain ⟨v,hv,hr⟩:=hk 0 i c rfl rfl;exact ⟨c,v,pX,hj,hv,hr⟩
         have two:((T.ite (decide (i=j)) (.aa (j < LL.length) (.ret [c])) (BS LL.length i EZ uK):T (List Cell))).ah cs→∃c v,cs=[c]∧i < LL.length∧vs[i]? =some v∧bZ env H.length c v:=fun hp=>by
          by_cases e:i=j
          ·obtain ⟨q1,q2⟩:=hp.1 (decide_eq_true e);exact one q1 e q2.symm
          ·exact ih uK (fun q j c h1 h2=>hk (q+1) j c h1 h2) (hp.2 (decide_eq_false e))
         cases EZ with
         | nil=>
           cases uK with
           | nil=>
             obtain ⟨⟨q1,q2⟩,q3⟩:=hp
             exact one q2 q1 q3.symm
           | cons c' uK=>exact two hp
         | cons j' EZ=>exact two hp
    obtain ⟨c,v,rfl,mB,hv,hr⟩:=key js cs0 h6 hl;refine ⟨rfl,[v],.cons hr .nil,fun q u hu=>?_⟩
    cases q with
    | succ q=>simp at hu
    | zero=>
      simp only [List.getElem?_cons_zero,Option.some.injEq] at hu;subst hu;rw [dp];rcases h4.2 with ⟨hx,hn⟩ | ⟨g,cap,eW,hx,_,hg,_,_,_,sq⟩
      ·omega
      ·have e:=h8 _ _ _ hx;have nz:=h4.cells (g:=g) (by simp [hx,Value.ownBlock]) i v hv;have yf:(⟨g,0,none⟩:Addr).add i=⟨g,i,none⟩:=by unfold Addr.add;split<;>simp_all
       rw [yf] at nz;simp only [Addr.mk.injEq,and_true] at e;unfold HV.addr;rw [h1,h2,←e];simpa using nz
   ·exact hl.elim
 | dead=>rw [ho] at hl;exact hl.elim
theorem DY {N:Nat} {c:Cell} {v:Value} (h:c.one=true) (hr:bZ env N c v):v.oneCell'=true:=by
 cases c<;>simp only [bZ] at hr<;>try (simp only [Cell.one] at h)
 case int=>subst hr;rfl
 case bool=>subst hr;rfl
 case str=>subst hr;rfl
 case ptr=>rw [hr.2];rfl
 case ai=>obtain ⟨_,A,c,rfl,_⟩:=hr;rfl
 case own=>obtain ⟨_,_,A,c,rfl,_⟩:=hr;rfl
 case nil=>subst hr;rfl
 case fn=>rw [hr.2];rfl
 case raw=>subst hr;exact h
 case eJ=>cases h
theorem yG {N:Nat}:∀{cs:List Cell} {vs:List Value},cs.all Cell.one=true→ct env N cs vs→∀v∈vs,v.oneCell'=true
 | _,_,_,.nil=>by simp
 | _,_,h,.cons x xs=>by
   simp only [List.all_cons,Bool.and_eq_true] at h;intro v hv;rcases List.mem_cons.1 hv with rfl | hv
   ·exact DY h.1 x
   ·exact yG h.2 xs v hv
theorem zo {N:Nat} {cs xs:List Cell} {vs us:List Value} (o:Nat) (hc:ct env N cs vs) (hx:ct env N xs us):ct env N (cS cs o xs) (vs.take o++(us++vs.drop (o+us.length))):=by
 unfold cS;rw [cq hx];exact oe (vT o hc) (oe hx (Dj _ hc))
theorem ic {w:World} {g:Nat} {M:Nat→Prop} {cs:Array Value} (hg:M g):gR M w (w.setRow g cs):=
 ⟨rfl,rfl,rfl,by simp,fun k _ hk=>setRow_other w g k _ (fun e=>hk (by subst e;exact hg)),Nat.le_refl _⟩
theorem HD {α:Type} {X Y us:List α} {k:Nat} (h:k+us.length≤X.length):(X++Y).take k++(us++(X++Y).drop (k+us.length))=(X.take k++(us++X.drop (k+us.length)))++Y:=by
 rw [List.take_append_of_le_length (by omega),List.drop_append_of_le_length h];simp
theorem uj {α:Type} {X Y us:List α} {k q:Nat} (hq:q=X.length+k):(X++Y).take q++(us++(X++Y).drop (q+us.length))=X++(Y.take k++(us++Y.drop (k+us.length))):=by
 subst hq;rw [List.take_length_add_append,Nat.add_assoc,List.drop_length_add_append];simp
theorem zn {cs xs:List Cell} {o:Nat}:(cS cs o xs).map Cell.val=(cs.map Cell.val).take o++(xs.map Cell.val++(cs.map Cell.val).drop (o+(xs.map Cell.val).length)):=by
 unfold cS;simp
theorem ve {cs xs:List Cell} {o:Nat} (h:cs.all Cell.scalar=true) (k:xs.all Cell.scalar=true):(cS cs o xs).all Cell.scalar=true:=by
 unfold cS;rw [List.all_eq_true] at*;intro c hc;rcases List.mem_append.1 hc with hc | hc
 ·exact h c (List.mem_of_mem_take hc)
 ·rcases List.mem_append.1 hc with hc | hc
  ·exact k c hc
  ·exact h c (List.mem_of_mem_drop hc)
theorem HY {H H':Heap cod} {w:World} {M:Nat→Prop} {h i o:Nat} {xs:List Cell} {us:List Value} (hs:(ky H h i o xs).ah H') (hx:ct env H.length xs us) (G:Good env H w M):
 ∃w',(storeCells ((env h).addr i o) us).run P w= .ok () w'∧Good env H' w' M∧gR M w w'∧H'.length=H.length:=by
 unfold ky at hs
 cases ho:getObj H h with
 | aF c0 ty=>
   rw [ho] at hs;simp only at hs;split at hs
   ·rename_i hc;obtain ⟨rfl,hle,kW⟩:=hc;rw [T.ad] at hs;subst hs;have hg:=aE ho (by simp);obtain ⟨h1,h2,vs,h3,h4⟩:=G.obj h _ hg;have hlen:=cq h4;have hlx:=cq hx;have cW:=run_storeCells_at P (env h).block o ty us 0 vs.toArray w h3 (by simp;omega) (yG kW hx);simp only [Nat.add_zero] at cW;have lR:(env h).addr 0 o=⟨(env h).block,o,none⟩:=by simp [HV.addr,h1]
    rw [lR];refine ⟨_,cW,?_,ic h2,by simp⟩;refine G.write hg rfl (b:=(env h).block) rfl (by simp) (fun k hk=>setRow_other w _ k _ hk) ⟨h1,h2,_,setRow_heap w _ vs.toArray _ ty _ h3,?_⟩ (fun _ h=>h);have:=zo o h4 hx;simpa [List.append_assoc] using this
   ·exact hs.elim
 | arr t l ty=>
   rw [ho] at hs;simp only at hs;split at hs
   ·rename_i hc;obtain ⟨hle,qo⟩:=hc;rw [T.ak,T.ad] at hs;obtain ⟨hi,rfl⟩:=hs;have hg:=aE ho (by simp);obtain ⟨h1,h2,h3,h4⟩:=G.obj h _ hg;have hlx:=cq hx;have BD:(cS ((cod t).enc (l.getD i (cod t).d)) o xs).all Cell.scalar=true:=by rw [←(cod t).ck _ qo];exact (cod t).l3 _
    have iP:xs.all Cell.scalar=true:=by
     rw [List.all_eq_true] at BD ⊢;intro c hc;exact BD c (by unfold cS;simp [hc])
    have yl:=cN iP hx
    have mB:i*(cod t).size+(o+us.length)≤(aN (cod t) l).length:=by
     rw [bB];have:(i+1)*(cod t).size≤l.length*(cod t).size:=Nat.mul_le_mul_right _ hi;rw [Nat.add_mul] at this;omega
    have kW:∀v∈us,v.oneCell'=true:=by
     rw [yl];intro v hv;obtain ⟨c,hc,rfl⟩:=List.mem_map.1 hv;exact l5 (List.all_eq_true.1 iP c hc)
    have cW:=run_storeCells_at P (env h).block (i*(cod t).size+o) ty us 0 (aN (cod t) l).toArray w h4 (by simp;omega) kW;simp only [Nat.add_zero] at cW;have lR:(env h).addr i o=⟨(env h).block,i*(cod t).size+o,none⟩:=by simp [HV.addr,h1,h2]
    rw [lR];refine ⟨_,cW,?_,ic h3,by simp⟩;refine G.write hg rfl (b:=(env h).block) rfl (by simp) (fun k hk=>setRow_other w _ k _ hk) ⟨h1,h2,h3,?_⟩ (fun _ h=>h);rw [setRow_heap w _ (aN (cod t) l).toArray _ ty _ h4,nT (cod t) l i o xs hi hle qo,yl,List.length_map]
   ·exact hs.elim
 | iC pre t m l post ty=>
   rw [ho] at hs;have hg:=aE ho (by simp);obtain ⟨h1,h2,h3,h5,h6,h4⟩:=G.obj h _ hg;have UD:=bB (cod t) l;have hlx:=cq hx
   have fin:∀(k:Nat) (ZJ:List Cell) (l':List (cod t).α) (NQ:List Cell),xs.all Cell.scalar=true→k=i*(cod t).size+o→k+us.length≤pre.length+((aN (cod t) l).length+post.length)→l'.length=m→(ZJ++NQ).all Cell.scalar=true→
    ((pre.map Cell.val++(aN (cod t) l++post.map Cell.val)).take k++(us++(pre.map Cell.val++(aN (cod t) l++post.map Cell.val)).drop (k+us.length))=ZJ.map Cell.val++(aN (cod t) l'++NQ.map Cell.val))→H'=H.set h (.iC ZJ t m l' NQ ty)→
    ∃w',(storeCells ((env h).addr i o) us).run P w= .ok () w'∧Good env H' w' M∧gR M w w'∧H'.length=H.length:=by
    intro k ZJ l' NQ iP hk hle gP BD he hH;subst hH;have yl:=cN iP hx
    have kW:∀v∈us,v.oneCell'=true:=by
     rw [yl];intro v hv;obtain ⟨c,hc,rfl⟩:=List.mem_map.1 hv;exact l5 (List.all_eq_true.1 iP c hc)
    have cW:=run_storeCells_at P (env h).block k ty us 0 (pre.map Cell.val++(aN (cod t) l++post.map Cell.val)).toArray w h4 (by simp;omega) kW;simp only [Nat.add_zero] at cW
    have lR:(env h).addr i o=⟨(env h).block,k,none⟩:=by
     unfold HV.addr;rw [h1,h2,hk,Nat.zero_add]
    rw [lR];refine ⟨_,cW,?_,ic h3,by simp⟩;refine G.write hg rfl (b:=(env h).block) rfl (by simp) (fun k hk=>setRow_other w _ k _ hk) ⟨h1,h2,h3,gP,BD,?_⟩ (fun _ h=>h);rw [setRow_heap w _ (pre.map Cell.val++(aN (cod t) l++post.map Cell.val)).toArray _ ty _ h4,←he];simp
   have h6':=h6;rw [List.all_append,Bool.and_eq_true] at h6';simp only at hs;split at hs
   ·rename_i hc;obtain ⟨vA,kU,qo⟩:=hc;rw [T.ak,T.ad] at hs;obtain ⟨hi,hs⟩:=hs;have BD:(cS ((cod t).enc (l.getD i (cod t).d)) (o - pre.length) xs).all Cell.scalar=true:=by rw [←(cod t).ck _ qo];exact (cod t).l3 _
    have iP:xs.all Cell.scalar=true:=by
     rw [List.all_eq_true] at BD ⊢;intro c hc;exact BD c (by unfold cS;simp [hc])
    have yl:=cN iP hx
    have mB:i*(cod t).size+(cod t).size≤(aN (cod t) l).length:=by
     have:(i+1)*(cod t).size≤l.length*(cod t).size:=Nat.mul_le_mul_right _ (by omega);rw [Nat.add_mul,Nat.one_mul] at this;omega
    refine fin (i*(cod t).size+o) pre _ post iP rfl (by omega) (by rw [List.length_set];exact h5) h6 ?_ hs.symm;rw [nT (cod t) l i (o - pre.length) xs (by omega) (by omega) qo];rw [uj (k:=i*(cod t).size+(o - pre.length)) (by rw [List.length_map];omega),HD (by omega),yl];simp
   ·split at hs
    ·rename_i hc;obtain ⟨rfl,hc,iP⟩:=hc;rw [T.ad] at hs;have yl:=cN iP hx;refine fin o (cS pre o xs) l post iP (by omega) (by omega) h5 (by rw [List.all_append,ve h6'.1 iP,h6'.2];rfl) ?_ hs.symm;rw [HD (by rw [List.length_map];omega),zn,yl]
    ·split at hs
     ·rename_i hc;obtain ⟨rfl,vA,kU,iP⟩:=hc;rw [T.ad] at hs;have yl:=cN iP hx;refine fin o pre l (cS post (o - (pre.length+m*(cod t).size)) xs) iP (by omega) (by rw [UD,h5];omega) h5 (by rw [List.all_append,ve h6'.2 iP,h6'.1];rfl) ?_ hs.symm;rw [uj (k:=o - pre.length) (by rw [List.length_map];omega),uj (k:=o - (pre.length+m*(cod t).size)) (by rw [UD,h5];omega),zn,yl]
     ·exact hs.elim
 | own t l ty=>
   rw [ho] at hs;simp only at hs;split at hs
   ·rename_i hc;obtain ⟨hle,qo⟩:=hc;rw [T.ak,T.ad] at hs;obtain ⟨hi,rfl⟩:=hs;have hg:=aE ho (by simp);obtain ⟨h1,h2,h3,h4,h5⟩:=G.obj h _ hg;have BD:(cS ((cod t).enc (l.getD i (cod t).d)) o xs).all Cell.scalar=true:=by rw [←(cod t).ck _ qo];exact (cod t).l3 _
    have iP:xs.all Cell.scalar=true:=by
     rw [List.all_eq_true] at BD ⊢;intro c hc;exact BD c (by unfold cS;simp [hc])
    have yl:=cN iP hx
    have kW:∀v∈us,v.oneCell'=true:=by
     rw [yl];intro v hv;obtain ⟨c,hc,rfl⟩:=List.mem_map.1 hv;exact l5 (List.all_eq_true.1 iP c hc)
    have hul:us.length=xs.length:=by rw [yl,List.length_map]
    rcases h3.2 with ⟨hv,hn⟩ | ⟨g,cap,eW,hv,hb,hgg,vB,mA,pX,sq⟩
    ·omega
    ·have e:=h5 _ _ _ hv;simp only [Addr.mk.injEq,and_true] at e;subst e;have hmb:M (env h).block:=h4 _ (by simp [hv,Value.ownBlock]);have mB:(i+1)*(cod t).size≤l.length*(cod t).size:=Nat.mul_le_mul_right _ hi;have hic:l.length*(cod t).size≤cap*(cod t).size:=Nat.mul_le_mul_right _ vB;rw [Nat.add_mul] at mB;have UD:=bB (cod t) l;have cW:=run_storeCells_at P (env h).block (i*(cod t).size+o) ty us 0 eW w hgg (by simp;omega) kW;simp only [Nat.add_zero] at cW;have lR:(env h).addr i o=⟨(env h).block,i*(cod t).size+o,none⟩:=by simp [HV.addr,h1,h2]
     rw [lR];refine ⟨_,cW,?_,ic hmb,by simp⟩;refine G.write hg rfl (b:=(env h).block) (by simp [av.has,hv,Value.ownBlock]) (by simp) (fun k hk=>setRow_other w _ k _ hk) ⟨h1,h2,?_,h4,h5⟩ (fun _ h=>h);refine ⟨by rw [bB,List.length_set],.inr ⟨(env h).block,cap,_,by rw [List.length_set];exact hv,hb,setRow_heap w _ eW _ ty _ hgg,by rw [List.length_set];exact vB,mA,?_,?_⟩⟩
     ·simp only [List.size_toArray,List.length_append,List.length_take,List.length_drop,Array.length_toList];omega
     ·rw [nT (cod t) l i o xs hi hle qo,List.length_set,←sq,yl,List.length_map];have e1:(eW.toList.take (l.length*(cod t).size)).take (i*(cod t).size+o)=eW.toList.take (i*(cod t).size+o):=by rw [List.take_take];congr 1;omega
      rw [e1];have hA:(eW.toList.take (i*(cod t).size+o)).length=i*(cod t).size+o:=by rw [List.length_take,Array.length_toList];omega
      have hX:(xs.map Cell.val).length=xs.length:=List.length_map ..;have t1:(eW.toList.take (i*(cod t).size+o)).take (l.length*(cod t).size)=eW.toList.take (i*(cod t).size+o):=List.take_of_length_le (by omega);have t2:(xs.map Cell.val).take (l.length*(cod t).size - (i*(cod t).size+o))=xs.map Cell.val:=List.take_of_length_le (by omega);simp only [List.append_assoc];rw [List.take_append,hA,t1,List.take_append,hX,t2,List.drop_take,Nat.sub_sub]
   ·exact hs.elim
 | aY c0=>rw [ho] at hs;exact hs.elim
 | gL c0=>rw [ho] at hs;exact hs.elim
 | aB t l=>rw [ho] at hs;exact hs.elim
 | cL t LL op=>rw [ho] at hs;exact hs.elim
 | cj t LL js cs ty tyr=>rw [ho] at hs;exact hs.elim
 | dead=>rw [ho] at hs;exact hs.elim
end
end Sym
end Go.Proofs.YtcjagpfbhnmggaaGreatDoor
