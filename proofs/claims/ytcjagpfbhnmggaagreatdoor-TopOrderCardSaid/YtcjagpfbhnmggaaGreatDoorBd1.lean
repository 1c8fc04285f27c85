/- Parts of the proof. -/
import Derived.Test.YtcjagpfbhnmggaaGreatDoorBd0
import Derived.Laws.FloatArith
namespace Go.Proofs.YtcjagpfbhnmggaaGreatDoor
namespace Sym
open Go.RowKit
section
variable {cod:Nat→aO}
def cD (tm:List SV):Operand→SV
 | .tmp t=>tm.getD t (.c .eJ)
 | .const v=>SV.ofValue v
 | .func f=>.c (.fn f [])
 | .global g=>.c (.raw (.pointer (some ⟨g,0,none⟩)))
def qH:SV→Option Bool
 | .c (.bool b)=>some b
 | .c (.raw (.bool b))=>some b
 | _=>none
structure Out (cod:Nat→aO) where
 v:SV
 H:Heap cod
 kill:List Nat:=[]
def Cell.hs:Cell→List Nat
 | .ptr h _ _=>[h]
 | .ai h _ _ _=>[h]
 | .own h _=>[h]
 | .fn _ dC=>dC.map (·.1)
 | _=>[]
def Cell.bR (ks:List Nat) (c:Cell):Cell:=if c.hs.any ks.contains then .eJ else c
def av.aX (f:Cell→Cell):av cod→av cod
 | .aF cs ty=>.aF (cs.map f) ty
 | .aY cs=>.aY (cs.map f)
 | .gL cs=>.gL (cs.map f)
 | .cL t LL op=>.cL t LL (op.map fun p=>(p.1,f p.2))
 | .cj t LL js cs ty tyr=>.cj t LL js (cs.map f) ty tyr
 | o=>o
def SV.aX (f:Cell→Cell):SV→SV
 | .c x=>.c (f x)
 | .agg cs=>.agg (cs.map f)
 | .aP vs=>.aP (vs.map fun | .c x=>.c (f x) | .agg cs=>.agg (cs.map f) | v=>v)
def ik:SV:=.c (.raw undef)
def S5 (wrap:Bool) (op:BinOp) (x y:SV):T SV:=
 match x,y with
 | .c (.int k a),.c (.int k' b)=>
   match op with
   | .shl=>.aa (0≤b) (.ret (.c (.int k (k.wrap (a*2^(min b.toNat k.bits))))))
   | .shr=>.aa (0≤b) (.ret (.c (.int k (a.fdiv (2^(min b.toNat k.bits))))))
   | _=>
     if k=k' then
      match op with
      | .add=>arith wrap k (a+b)
      | .sub=>arith wrap k (a - b)
      | .mul=>arith wrap k (a*b)
      | .quo=>.aa (b≠0) (arith wrap k (a.tdiv b))
      | .rem=>.aa (b≠0) (.ret (.c (.int k (a.tmod b))))
      | .and=>.ret (.c (.int k (bits .and k a b)))
      | .or=>.ret (.c (.int k (bits .or k a b)))
      | .xor=>.ret (.c (.int k (bits .xor k a b)))
      | .andNot=>.ret (.c (.int k (bits .andNot k a b)))
      | .eql=>cM (decide (a=b))
      | .neq=>cM (!decide (a=b))
      | .lss=>cM (decide (a < b))
      | .leq=>cM (decide (a≤b))
      | .gtr=>cM (decide (b < a))
      | .geq=>cM (decide (b≤a))
      | _=>.fail
     else .fail
 | .c (.str a),.c (.str b)=>
   match op with
   | .add=>.aa (a.length+b.length≤9223372036854775807) (.ret (.c (.str (a++b))))
   | .eql=>cM (decide (a=b))
   | .neq=>cM (!decide (a=b))
   | .lss=>cM (Op.bytesLess a b)
   | .leq=>cM (Op.bytesLess a b||decide (a=b))
   | .gtr=>cM (!(Op.bytesLess a b||decide (a=b)))
   | .geq=>cM (!Op.bytesLess a b)
   | _=>.fail
 | _,_=>.fail
def eqS (P:Program) (t:TypeId) (x y:SV):Option Bool:=
 match x,y with
 | .agg xs,.agg ys=>if P.eqGuardType P.depth t=true∨dm P t=false then none else eqT P 8 t xs ys
 | x,y=>match qH x,qH y with
   | some a,some b=>match P.underlying t with
     | some .bool=>some (a==b)
     | _=>none
   | _,_=>none
def Zs (P:Program) (t:TypeId) (x y:SV):Option (Prop×Bool):=
 match P.underlying t with
 | some (.slice _)=>match x,y with
   | .c (.ai _ _ n _),.c .nil=>some (0 < n,false)
   | .c (.own _ n),.c .nil=>some (0 < n,false)
   | .c .nil,.c .nil=>some (True,true)
   | _,_=>none
 | some (.pointer _)=>match x,y with
   | .c (.ptr _ _ _),.c (.raw (.pointer none))=>some (True,false)
   | .c (.raw (.pointer none)),.c (.raw (.pointer none))=>some (True,true)
   | _,_=>none
 | _=>none
def F.iO (k:FloatKind) (a b:Nat):Bool:=k.format.order a b==some .eq
def F.Dp (k:FloatKind) (a b:Nat):Bool:=k.format.order a b==some .lt
def F.nl (k:FloatKind) (a b:Nat):Bool:=k.format.order a b==some .gt
def F.aG (k:FloatKind) (a b:Nat):Nat:=(k.format.mul a b).getD 0
def F.bC (k:FloatKind) (a b:Nat):Prop:=(k.format.mul a b).isSome=true
def F.bK (op:BinOp) (k:FloatKind) (a b:Nat):Nat:=(floatBits op k a b).getD 0
def F.bS (op:BinOp) (k:FloatKind) (a b:Nat):Prop:=(floatBits op k a b).isSome=true
def F.nq (k:FloatKind) (a:Nat):Nat:=Op.negFloat k a
def F.rl (b:Nat):Prop:=match FloatKind.f64.decode b with
 | .nan _ _=>False
 | _=>True
def F.Pa (bE:Ieee.Toward) (b:Nat):Nat:=FloatKind.f64.encode ((FloatKind.f64.decode b).integral bE)
def F.gm (k:FloatKind) (n:Int):Nat:=k.nearest n
def F.EV (s:FloatKind) (b:Nat) (k:IntKind):Int:=(floatToIntVal s b k).getD 0
def F.ml (s:FloatKind) (b:Nat) (k:IntKind):Prop:=(floatToIntVal s b k).isSome=true
def YE (op:BinOp) (k k':FloatKind) (a b:Nat):T SV:=
 if k=k' then
  match op with
  | .eql=>cM (F.iO k a b)
  | .neq=>cM (!F.iO k a b)
  | .lss=>cM (F.Dp k a b)
  | .leq=>cM (F.Dp k a b||F.iO k a b)
  | .gtr=>cM (F.nl k a b)
  | .geq=>cM (F.nl k a b||F.iO k a b)
  | .mul=>.aa (F.bC k a b) (.ret (.c (.raw (.float k (F.aG k a b)))))
  | .add=>.aa (F.bS .add k a b) (.ret (.c (.raw (.float k (F.bK .add k a b)))))
  | .sub=>.aa (F.bS .sub k a b) (.ret (.c (.raw (.float k (F.bK .sub k a b)))))
  | .quo=>.aa (F.bS .quo k a b) (.ret (.c (.raw (.float k (F.bK .quo k a b)))))
  | _=>.fail
 else .fail
def qJ (P:Program) (wrap:Bool) (op:BinOp) (t:TypeId) (x y:SV):T SV:=
 match x,y with
 | .c (.int _ _),.c (.int _ _) | .c (.str _),.c (.str _)=>S5 wrap op x y
 | .c (.raw (.float k a)),.c (.raw (.float k' b))=>YE op k k' a b
 | x,y=>match op with
   | .eql=>match eqS P t x y with
     | some b=>cM b
     | none=>match Zs P t x y with
       | some (p,b)=>.aa p (cM b)
       | none=>.fail
   | .neq=>match eqS P t x y with
     | some b=>cM (!b)
     | none=>match Zs P t x y with
       | some (p,b)=>.aa p (cM (!b))
       | none=>.fail
   | _=>.fail
def unS (wrap:Bool) (op:UnOp) (x:SV):T SV:=
 match op,x with
 | .neg,.c (.int k n)=>arith wrap k (-n)
 | .neg,.c (.raw (.float k b))=>.ret (.c (.raw (.float k (F.nq k b))))
 | .not,x=>match qH x with
   | some b=>cM (!b)
   | none=>.fail
 | _,_=>.fail
def zeroCells (P:Program) (t:TypeId):Option (List Cell):=
 match (P.info? t).bind (·.zero) with
 | some v=>some (SV.ofValue v).cells
 | none=>none
def BR (P:Program) (t:TypeId) (cs:List Cell) (off:Nat):T SV:=
 if dm P t then .ret (.agg ((cs.drop off).take (P.cellsOf t)))
 else match cs[off]? with
  | some c=>.ret (.c c)
  | none=>.fail
def pd (place:Nat→Option (Nat×Nat)) (cells:List Cell):List (Nat×SV)→Option (List Cell)
 | []=>some cells
 | (i,v)::rest=>
   match place i with
   | none=>none
   | some (off,size)=>if v.cells.length≠size∨off+size > cells.length∨v.cells.all Cell.one=false then none else pd place (cS cells off v.cells) rest
def NP (P:Program) (t:TypeId):Option (Nat→Option (Nat×Nat)):=
 match P.underlying t with
 | some (.array _ e)=>(P.info? e).map fun ie i=>some (i*ie.size,ie.size)
 | some (.struct fs)=>(fs.toList.mapM fun f=>(P.info? f.type).map fun i=>(f.offset,i.size)).map fun pl i=>pl.toArray[i]?
 | _=>none
def C4 (P:Program) (t:TypeId) (parts:List (Nat×SV)):Option (List Cell):=
 match zeroCells P t,NP P t with
 | some z,some pl=>pd pl z parts
 | _,_=>none
def arrayOf (P:Program) (t:TypeId):Bool:=
 match P.underlying t with
 | some (.array _ _)=>true
 | _=>false
def fB (cfg:aT cod) (t:TypeId) (cs:List Cell):av cod:=
 if arrayOf cfg.P t then
  match cfg.tv (1000000+t) with
  | none=>.aF cs t
  | some u=>match xQ (cod u) (cs.length / (cod u).size) cs with
    | some l=>.arr u l t
    | none=>.aF cs t
 else .aF cs t
def gh (H:Heap cod) (o:av cod) (v:SV):T (Out cod):=.ret {v:=v,H:=H++[o]}
def av.aV:av cod→Bool
 | .aB t l=>t==0&&l.isEmpty
 | _=>false
def iy (cfg:aT cod) (d:Option Nat) (H:Heap cod) (o:av cod):T (Out cod):=
 match d.bind cfg.place with
 | none=>gh H o (.c (.ptr H.length 0 0))
 | some k=>if (getObj H k).aV=true then .ret {v:=.c (.ptr k 0 0),H:=H.set k o} else .fail
def fJ (o:Oper):Bool:=
 match o.op with
 | .alloc _=>true
 | .box _ _=>true
 | _=>false
def mT:SV→Option (Nat×Nat×Nat×Bool)
 | .c (.ai h i n t)=>some (h,i,n,t)
 | .c (.own h n)=>some (h,0,n,false)
 | _=>none
def dw (P:Program) (H:Heap cod) (t:TypeId) (x ix:SV):T SV:=
 match P.underlying t,ix with
 | some (.array n e),.c (.int _ k)=>
   match x with
   | .c (.ptr h i o)=>
     match getObj H h with
     | .arr u _ _=>
       if o=0∧P.cellsOf e=(cod u).size then .aa (0≤k∧k < n) (.ret (.c (.ptr h (i+k.toNat) 0)))
       else if o=0∧P.cellsOf e % (cod u).size=0∧P.cellsOf e≠0 then .aa (0≤k∧k < n) (.ret (.c (.ptr h (i+k.toNat*(P.cellsOf e / (cod u).size)) 0)))
       else .fail
     | .aF _ _ | .aY _=>match k with
       | .ofNat m=>if m < n∧P.cellsOf e≠0 then .ret (.c (.ptr h i (o+m*P.cellsOf e))) else .fail
       | _=>.fail
     | .iC pre u _ _ _ _=>if i=0∧o=pre.length∧P.cellsOf e=(cod u).size then .aa (0≤k∧k < n) (.ret (.c (.ptr h k.toNat o))) else .fail
     | .cj _ _ _ _ _ _=>if o=0∧P.cellsOf e=1 then .aa (0≤k∧k < n) (.ret (.c (.ptr h (i+k.toNat) 0))) else .fail
     | _=>.fail
   | .c (.raw (.pointer (some a)))=>if P.cellsOf e=1 then .aa (0≤k∧k < n) (.ret (.c (.raw (.pointer (some (a.add k.toNat)))))) else .fail
   | _=>.fail
 | some (.slice e),.c (.int _ k)=>
   match mT x with
   | some (h,i,n,_)=>
     match getObj H h with
     | .arr u _ _ | .own u _ _ | .aB u _=>if P.cellsOf e=(cod u).size then .aa (0≤k∧k < n) (.ret (.c (.ptr h (i+k.toNat) 0))) else .fail
     | .cL _ _ _ | .cj _ _ _ _ _ _=>if P.cellsOf e=1 then .aa (0≤k∧k < n) (.ret (.c (.ptr h (i+k.toNat) 0))) else .fail
     | .aF _ _ | .aY _ | .gL _=>match k with
       | .ofNat m=>if m < n∧P.cellsOf e≠0 then .ret (.c (.ptr h i (m*P.cellsOf e))) else .fail
       | _=>.fail
     | _=>.fail
   | none=>.fail
 | _,_=>.fail
def Kj (cfg:aT cod) (t:TypeId) (x ix:SV):T SV:=
 match cfg.P.underlying t,x,ix with
 | some (.array n e),.agg cs,.c (.int _ k)=>
   if (cfg.P.underlying e).isSome then
    match cfg.tv t with
    | some u=>
      if cfg.P.cellsOf e=(cod u).size then
       match xQ (cod u) n cs with
       | some l=>.aa (0≤k∧k < n) (BR cfg.P e ((cod u).enc (l.getD k.toNat (cod u).d)) 0)
       | none=>.fail
      else .fail
    | none=>match k with
      | .ofNat m=>if m < n then BR cfg.P e cs (m*cfg.P.cellsOf e) else .fail
      | _=>.fail
   else .fail
 | some .string,.c (.str s),.c (.int _ k)=>.aa (0≤k∧k < s.length) (.ret (.c (.int .u8 (s.getD k.toNat 0).toNat)))
 | _,_,_=>.fail
def av.Bs:av cod→Option Nat
 | .arr t _ _ | .own t _ _ | .aB t _=>some (cod t).size
 | .cL _ _ _=>some 1
 | .cj _ _ _ _ _ _=>some 1
 | _=>none
def ug (P:Program) (H:Heap cod) (n:Nat) (e:TypeId) (x:SV) (lo:Option SV):T SV:=
 match x with
 | .c (.ptr h i 0)=>
   if (getObj H h).Bs=some (P.cellsOf e)∧n≤1000000 then
    match lo with
    | none=>.ret (.c (.ai h i n true))
    | some (.c (.int _ a))=>.aa (0≤a∧a≤n) (.ret (.c (.ai h (i+a.toNat) (n - a.toNat) true)))
    | _=>.fail
   else .fail
 | _=>.fail
def jM (P:Program) (H:Heap cod) (t:TypeId) (x:SV) (lo hi mx:Option SV):T SV:=
 match P.underlying t with
 | some (.array m e)=>match hi,mx with
   | none,none=>ug P H m e x lo
   | _,_=>.fail
 | some .string=>
   match x,lo,hi,mx with
   | .c (.str s),none,some (.c (.int _ b)),none=>.aa (0≤b∧b≤s.length) (.ret (.c (.str (s.take b.toNat))))
   | .c (.str s),some (.c (.int _ a)),none,none=>.aa (0≤a∧a≤s.length) (.ret (.c (.str (s.drop a.toNat))))
   | .c (.str s),some (.c (.int _ a)),some (.c (.int _ b)),none=>.aa (0≤a∧a≤b∧b≤s.length) (.ret (.c (.str ((s.drop a.toNat).take (b.toNat - a.toNat)))))
   | _,_,_,_=>.fail
 | some (.slice e)=>
   match mT x with
   | none=>match x,lo,hi,mx with
     | .c .nil,none,some (.c (.int _ b)),some (.c (.int _ m))=>if (P.info? e).isSome then .aa (b=0∧m=0) (.ret (.c .nil)) else .fail
     | _,_,_,_=>.fail
   | some (h,i,n,t)=>
     if (getObj H h).Bs=some (P.cellsOf e) then
      match lo,hi,mx with
      | none,some (.c (.int _ b)),none=>.aa (0≤b∧b≤n) (.ret (.c (.ai h i b.toNat false)))
      | some (.c (.int _ a)),none,none=>.aa (0≤a∧a≤n) (.ret (.c (.ai h (i+a.toNat) (n - a.toNat) t)))
      | some (.c (.int _ a)),some (.c (.int _ b)),none=>.aa (0≤a∧a≤b∧b≤n) (.ret (.c (.ai h (i+a.toNat) (b.toNat - a.toNat) false)))
      | none,some (.c (.int _ b)),some (.c (.int _ m))=>.aa (0≤b∧b≤n∧m=b) (.ret (.c (.ai h i b.toNat true)))
      | _,_,_=>.fail
     else .fail
 | _=>.fail
def Tp (P:Program) (wrap:Bool) (src dst:TypeId) (x:SV):T SV:=
 match P.underlying src,P.underlying dst,x with
 | some _,some (.int k),.c (.int _ n)=>arith wrap k n
 | some _,some .string,.c (.str s)=>.ret (.c (.str s))
 | some _,some (.float k),.c (.int _ n)=>.ret (.c (.raw (.float k (F.gm k n))))
 | some _,some (.int k),.c (.raw (.float s b))=>.aa (F.ml s b k) (.ret (.c (.int k (F.EV s b k))))
 | _,_,_=>.fail
def Bx (f:Int→Int→Int) (k:IntKind):Int→List SV→Option Int
 | a,[]=>some a
 | a,.c (.int k' b)::xs=>if k=k' then Bx f k (f a b) xs else none
 | _,_=>none
def rowsOf (u:Nat) (H:Heap cod) (x:SV):T (List (cod u).α):=
 match x with
 | .c (.own h _)=>match getObj H h with
   | .own u' l _=>if hu:u'=u then .ret (hu▸l) else .fail
   | _=>.fail
 | .c (.ai h i n _)=>match (getObj H h).rows cod u with
   | some l=>.aa (((l.drop i).take n).length=n) (.ret ((l.drop i).take n))
   | none=>.fail
 | _=>.fail
def av.front:av cod→Option (List Cell)
 | .aF cs _ | .aY cs | .gL cs=>some cs
 | _=>none
def fk (cfg:aT cod) (H:Heap cod) (e:TypeId) (s x:SV):T (Out cod):=
 match s,x with
 | .c .nil,.c (.ai h i n _)=>match (getObj H h).front with
   | some cs=>
     if i=0∧0 < n∧n≤1000000∧0 < cfg.P.cellsOf e∧n*cfg.P.cellsOf e≤cs.length∧(cs.take (n*cfg.P.cellsOf e)).all Cell.one=true∧cfg.P.bytesOf e≤100000∧(zeroCells cfg.P e).map List.length=some (cfg.P.cellsOf e) then
      .ret {v:=.c (.ai H.length 0 n false),H:=H++[.gL (cs.take (n*cfg.P.cellsOf e))]}
     else .fail
   | none=>.fail
 | _,_=>.fail
def p9 (cfg:aT cod) (n:Nat) (a:Out cod) (t:T (Out cod)):T (Out cod):=if cfg.Ys=true then .ite (decide (n=0)) (.ret a) t else t
def Zq (b:Bool) (n:Nat) (R:Out cod):T (Out cod):=
 match b with
 | true=>.aa (n≤1000000) (.ret R)
 | false=>.aa (0 < n∧n≤1000000) (.ret R)
theorem jK {b:Bool} {n:Nat} {R out:Out cod} (h:(Zq b n R).ah out):n≤1000000∧R=out:=by
 cases b with
 | true=>exact ⟨h.1,h.2⟩
 | false=>exact ⟨h.1.2,h.2⟩
theorem Zr {b:Bool} {n:Nat} {R out:Out cod} (R':Out cod) (h:(Zq b n R).ah out):(Zq b n R').ah R':=by
 cases b with
 | true=>exact ⟨h.1,rfl⟩
 | false=>exact ⟨h.1,rfl⟩
def dA (cfg:aT cod) (H:Heap cod) (t:TypeId) (s x:SV):T (Out cod):=
 match cfg.P.underlying t with
 | some (.slice e)=>
   match cfg.tv e with
   | none=>fk cfg H e s x
   | some u=>
     if cfg.P.cellsOf e=(cod u).size∧cfg.P.bytesOf e≤100000∧(zeroCells cfg.P e).map List.length=some (cfg.P.cellsOf e) then
      (rowsOf u H x).bind fun l'=>
        match s with
        | .c (.own h n)=>
          match getObj H h with
          | .own u' l ty=>if hu:u'=u then
             if ty=e then
              .aa (n+l'.length≤1000000) (.ret {v:=.c (.own h (n+l'.length)),H:=(H.set h (.own u ((hu▸l)++l') e)).map (av.aX (Cell.bR [h])),kill:=[h]})
             else .fail
            else .fail
          | _=>.fail
        | .c (.ai h i n true)=>if cfg.emp=true then .aa (l'.length=0) (.ret {v:=.c (.ai h i n true),H:=H}) else
          p9 cfg l'.length {v:=.c (.ai h i n true),H:=H} ((rowsOf u H (.c (.ai h i n true))).bind fun l=>
           .aa (0 < l'.length∧n+l'.length≤1000000) (.ret {v:=.c (.own H.length (n+l'.length)),H:=H++[.own u (l++l') e]}))
        | .c .nil=>Zq cfg.Ys l'.length {v:=.c (.own H.length l'.length),H:=H++[.own u l' e]}
        | _=>.fail
     else .fail
 | _=>.fail
def xw (cfg:aT cod) (H:Heap cod) (t:TypeId) (x:SV):T (Out cod):=
 match cfg.P.underlying t,mT x with
 | some (.slice e),some (h,i,n,_)=>match getObj H h,zeroCells cfg.P e with
   | .own u l ty,some zc=>if (cod u).ok zc=true∧zc.length=(cod u).size then
      .aa (i+n≤l.length) (.ret {v:=.aP [],H:=H.set h (.own u (l.take i++(List.replicate n ((cod u).dec zc)++l.drop (i+n))) ty)}) else .fail
   | _,_=>.fail
 | _,_=>.fail
def AY (cfg:aT cod) (H:Heap cod) (t:TypeId) (x y:SV):T (Out cod):=
 match cfg.P.underlying t,mT x with
 | some (.slice e),some (h,i,n,_)=>match getObj H h with
   | .own u l ty=>if (cod u).size=1∧cfg.P.cellsOf e=1 then
      (rowsOf u H y).bind fun l'=>.aa (i+n≤l.length) (.ret {v:=.c (.int .i64 (Nat.min l'.length n:Nat)),H:=H.set h (.own u (l.take i++(l'.take n++l.drop (i+Nat.min l'.length n))) ty)}) else .fail
   | _=>.fail
 | _,_=>.fail
def dc (cfg:aT cod) (H:Heap cod) (b:Builtin) (ts:Array TypeId) (args:List SV):T (Out cod):=
 match b,args with
 | .len,[x]=>
   match (ts[0]?).bind cfg.P.underlying,x with
   | some .string,.c (.str s)=>.ret {v:=.c (.int .i64 s.length),H:=H}
   | some (.array n _),_=>.ret {v:=.c (.int .i64 n),H:=H}
   | some (.slice _),x=>match mT x with
     | some (_,_,n,_)=>.ret {v:=.c (.int .i64 n),H:=H}
     | none=>match x with
       | .c .nil=>.ret {v:=.c (.int .i64 0),H:=H}
       | _=>.fail
   | _,_=>.fail
 | .max,.c (.int k a)::xs=>match Bx max k a xs with
   | some n=>.ret {v:=.c (.int k n),H:=H}
   | none=>.fail
 | .min,.c (.int k a)::xs=>match Bx min k a xs with
   | some n=>.ret {v:=.c (.int k n),H:=H}
   | none=>.fail
 | .append,[s,x]=>
   match ts[0]?,ts[1]? with
   | some t,some t'=>if t=t' then dA cfg H t s x else .fail
   | _,_=>.fail
 | .clear,[x]=>match ts[0]? with
   | some t=>xw cfg H t x
   | none=>.fail
 | .copy,[x,y]=>match ts[0]? with
   | some t=>AY cfg H t x y
   | none=>.fail
 | _,_=>.fail
def av.wr:av cod→Bool
 | .aF _ _ | .gL _ | .arr _ _ _ | .own _ _ _ | .iC _ _ _ _ _ _ | .cj _ _ _ _ _ _=>true
 | _=>false
def SV.hs:SV→List Nat
 | .c x=>x.hs
 | .agg cs=>cs.flatMap Cell.hs
 | .aP vs=>vs.flatMap fun | .c x=>x.hs | .agg cs=>cs.flatMap Cell.hs | _=>[]
def av.hs:av cod→List Nat
 | .aF cs _=>cs.flatMap Cell.hs
 | .aY cs=>cs.flatMap Cell.hs
 | .gL cs=>cs.flatMap Cell.hs
 | .cL _ _ op=>match op with
   | some p=>p.2.hs
   | none=>[]
 | .cj _ _ _ cs _ _=>cs.flatMap Cell.hs
 | _=>[]
def dh:List Nat→List Nat→List Nat
 | acc,[]=>acc
 | acc,h::l=>if acc.contains h then dh acc l else dh (acc++[h]) l
def reach (H:Heap cod):Nat→List Nat→List Nat
 | 0,l=>l
 | d+1,l=>reach H d (dh l (l.flatMap fun h=>(getObj H h).hs))
def Cell.gp (ρ:Nat→Nat):Cell→Cell
 | .ptr h i o=>.ptr (ρ h) i o
 | .ai h i n t=>.ai (ρ h) i n t
 | .own h n=>.own (ρ h) n
 | .fn f dC=>.fn f (dC.map fun c=>(ρ c.1,c.2))
 | c=>c
def Cell.ro (ρ:Nat→Nat):Cell→Cell
 | .own h n=>.ai (ρ h) 0 n false
 | .raw (.bool b)=>.bool b
 | c=>c.gp ρ
def av.ro (ρ:Nat→Nat):av cod→av cod
 | .aF cs _=>.aY (cs.map (Cell.ro ρ))
 | .aY cs=>.aY (cs.map (Cell.ro ρ))
 | .gL cs=>.aY (cs.map (Cell.ro ρ))
 | .arr t l _=>.aB t l
 | .own t l _=>.aB t l
 | .aB t l=>.aB t l
 | .cL t LL _=>.cL t LL none
 | .iC _ _ _ _ _ _=>.dead
 | .cj t LL [] _ ty _=>if ty < 1000000 then .cL t LL none else .dead
 | .cj _ _ (_::_) _ _ _=>.dead
 | .dead=>.dead
def av.bQ:av cod→Bool
 | .own _ _ _=>true
 | _=>false
def uI (H:Heap cod) (kp:Bool) (s:aH cod) (args:List SV):T (Out cod):=
 let hs:=reach H 3 (dh [] (args.flatMap SV.hs))
 let ρ:=fun h=>hs.idxOf h
 let back:=fun i=>if i < hs.length then hs.getD i 0 else H.length+(i - hs.length)
 let ks:=hs.filter fun h=>!kp&&(getObj H h).bQ
 if (args.flatMap SV.hs).all hs.contains∧hs.all (fun h=>decide (h < H.length)&&(getObj H h).hs.all hs.contains) then
  (s (args.map (SV.aX (Cell.gp ρ))) (hs.map fun h=>(getObj H h).aX (Cell.gp ρ))).bind fun r=>
    if hs.length≤r.2.length∧(r.2.drop hs.length).all av.wr∧r.1.hs.all (fun i=>decide (i < r.2.length))∧
     (List.range hs.length).all (fun i=>(getObj r.2 i).wr==(getObj H (hs.getD i 0)).wr&&((getObj H (hs.getD i 0)).bQ||!(getObj r.2 i).bQ)) then
     .ret {v:=r.1.aX (Cell.gp back),kill:=ks,H:=((List.range H.length).map fun h=>if hs.contains h&&(getObj H h).wr then (getObj r.2 (ρ h)).aX (Cell.gp back) else (getObj H h).aX (Cell.bR ks))++(r.2.drop hs.length).map (av.aX (Cell.gp back))}
    else .fail
 else .fail
def qK (cfg:aT cod) (H:Heap cod) (g:FuncId) (s:aH cod) (args:List SV):T (Out cod):=
 let hs:=reach H 3 (dh [] (args.flatMap SV.hs))
 let ρ:=fun h=>hs.idxOf h
 let back:=fun i=>if i < hs.length then hs.getD i 0 else H.length+(i - hs.length)
 if (args.flatMap SV.hs).all hs.contains∧hs.all (fun h=>decide (h < H.length)&&(getObj H h).hs.all hs.contains) then
  (s (args.map (SV.aX (Cell.ro ρ))) (hs.map fun h=>(getObj H h).ro ρ)).bind fun r=>
    if r.2.all av.wr∧r.1.hs.all (fun i=>decide (i < hs.length+r.2.length))∧(cfg.quiet g=true→r.2=[]) then .ret {v:=r.1.aX (Cell.gp back),H:=H++r.2.map (av.aX (Cell.gp back))} else .fail
 else .fail
def mh (cfg:aT cod) (H:Heap cod) (g:FuncId) (args:List SV):T (Out cod):=
 match cfg.lB g with
 | some s=>qK cfg H g s args
 | none=>match cfg.Ch g with
   | some s=>uI H s.1 s.2 args
   | none=>.fail
def xu:List SV→Option (List (Nat×Nat×Nat))
 | []=>some []
 | .c (.ptr h i o)::l=>(xu l).map ((h,i,o)::·)
 | _=>none
def eD (P:Program) (s d:TypeId):Nat:=
 match P.underlying s,P.underlying d with
 | some .string,some (.slice _)=>1
 | some (.slice _),some .string=>2
 | some (.slice _),some (.slice _)=>3
 | _,_=>0
def rZ (cfg:aT cod) (H:Heap cod) (d:TypeId) (x:SV):T (Out cod):=
 match cfg.P.underlying d,x with
 | some (.slice e),.c (.str bs)=>
   match cfg.P.underlying e,cfg.tv e with
   | some (.int .u8),some u=>if (cod u).size=1 then .aa ((∀n:Int,(cod u).ok [.int .u8 n]=true)∧bs.length≤9223372036854775807) (gh H (.aB u (bs.map fun b=>(cod u).dec [.int .u8 (b.toNat:Int)])) (.c (.ai H.length 0 bs.length false))) else .fail
   | _,_=>.fail
 | _,_=>.fail
def byteOf (c:aO) (a:c.α):UInt8:=
 match c.enc a with
 | [.int _ n]=>UInt8.ofNat n.toNat
 | _=>0
def jL (cfg:aT cod) (H:Heap cod) (s:TypeId) (x:SV):T SV:=
 match cfg.P.underlying s with
 | some (.slice e)=>
   match cfg.P.underlying e,cfg.tv e with
   | some (.int .u8),some u=>(rowsOf u H x).bind fun l=>.aa (∀a:(cod u).α,∃n,(cod u).enc a=[.int .u8 n]) (.ret (.c (.str (l.map (byteOf (cod u))))))
   | _,_=>.fail
 | _=>.fail
def NG (P:Program) (H:Heap cod) (s d:TypeId) (x:SV):T (Out cod):=
 match P.underlying d,x with
 | some (.slice e),.c (.ai h 0 n t)=>match getObj H h,P.underlying e with
   | .arr u l _,some (.int .u8)=>if s=d∧0 < n then .ret {v:=.c (.ai h 0 n t),H:=H.set h (.aB u l)} else .fail
   | _,_=>.fail
 | _,_=>.fail
def jY (P:Program) (g:FuncId):Bool:=
 match P.funcs[g]? with
 | some fn=>fn.body.isNone&&(fn.origin== "" &&(fn.name== "math.Float64bits" ||(fn.name== "math.Float64frombits" ||fn.name== "math.archFloor")))
 | none=>false
def TN (P:Program) (g:FuncId) (args:List SV):T SV:=
 match P.funcs[g]? with
 | some fn=>
   if fn.name= "math.Float64bits" then
    match args with
    | [.c (.raw (.float .f64 b))]=>.ret (.c (.int .u64 b))
    | _=>.fail
   else if fn.name= "math.archFloor" then
    match args with
    | [.c (.raw (.float .f64 b))]=>.aa (F.rl b) (.ret (.c (.raw (.float .f64 (F.Pa .down b)))))
    | _=>.fail
   else
    match args with
    | [.c (.int .u64 n)]=>.ret (.c (.raw (.float .f64 n.toNat)))
    | _=>.fail
 | none=>.fail
def Ra (a:Addr):T SV:=
 match a.spot,W5.lookup a.block with
 | none,some l=>match l[a.off]? with
   | some (.float k b)=>.ret (.c (.raw (.float k b)))
   | _=>.fail
 | _,_=>.fail
def fe:Operand→Bool
 | .const (.slice none 0 0)=>true
 | _=>false
def iB (cfg:aT cod) (tm:List SV) (H:Heap cod) (o:Oper):T (Out cod):=
 let bG (t:T SV):T (Out cod):=t.bind fun v=>.ret {v:=v,H:=H}
 match o.op with
 | .move x | .assign x=>
   match fe x,cfg.P.underlying o.type with
   | true,some (.slice e)=>match cfg.tv e with
     | some u=>gh H (.own u [] e) (.c (.own H.length 0))
     | none=>.ret {v:=cD tm x,H:=H}
   | _,_=>.ret {v:=cD tm x,H:=H}
 | .pick c a b=>
   match cD tm c with
   | .c (.bool b')=>.ite b' (.ret {v:=cD tm a,H:=H}) (.ret {v:=cD tm b,H:=H})
   | _=>.fail
 | .alloc e=>match zeroCells cfg.P e with
   | some cs=>iy cfg o.dst H (fB cfg e cs)
   | none=>.fail
 | .box e x=>if (cD tm x).cells.all Cell.one then iy cfg o.dst H (fB cfg e (cD tm x).cells) else .fail
 | .build t parts=>
   match C4 cfg.P t (parts.toList.map fun p=>(p.1,cD tm p.2)) with
   | some cs=>.ret {v:=.agg cs,H:=H}
   | none=>.fail
 | .buildSlice t n parts=>
   match cfg.P.underlying t with
   | some (.slice e)=>
     match pd (fun i=>some (i*cfg.P.cellsOf e,cfg.P.cellsOf e)) (List.replicate (n*cfg.P.cellsOf e) .eJ) (parts.toList.map fun p=>(p.1,cD tm p.2)),cfg.tv e with
     | some cs,some u=>match xQ (cod u) n cs with
       | some l=>if n*cfg.P.cellsOf e≤65536∧cfg.P.cellsOf e=(cod u).size∧(zeroCells cfg.P e).isSome then gh H (.arr u l e) (.c (.ai H.length 0 n true)) else .fail
       | none=>.fail
     | some cs,none=>if n*cfg.P.cellsOf e≤65536∧cfg.P.cellsOf e≠0∧(zeroCells cfg.P e).isSome then gh H (.aF cs e) (.c (.ai H.length 0 n true)) else .fail
     | _,_=>.fail
   | _=>.fail
 | .load t x=>
   match cD tm x with
   | .c (.ptr h i o)=>
     if dm cfg.P t then bG ((fH H h i o (cfg.P.cellsOf t)).bind fun cs=>.ret (.agg cs))
     else if (cfg.P.underlying t).isSome then bG ((fH H h i o 1).bind fun cs=>match cs with
      | [c]=>.ret (.c c)
      | _=>.fail)
     else .fail
   | .c (.raw (.pointer (some a)))=>if dm cfg.P t=false∧(cfg.P.underlying t).isSome then bG (Ra a) else .fail
   | _=>.fail
 | .store t x y=>
   match cD tm x with
   | .c (.ptr h i o)=>
     if (cD tm y).cells.length=cfg.P.cellsOf t∧(cD tm y).cells.all Cell.one∧cfg.P.cellsOf t≠0 then (ky H h i o (cD tm y).cells).bind fun H'=>.ret {v:=ik,H:=H'} else .fail
   | _=>.fail
 | .nilCheck x=>
   match cD tm x with
   | .c (.ptr h i o)=>.ret {v:=.c (.ptr h i o),H:=H}
   | .c (.fn f dC)=>.ret {v:=.c (.fn f dC),H:=H}
   | _=>.fail
 | .binOp op t x y _=>bG (qJ cfg.P cfg.wrap op t (cD tm x) (cD tm y))
 | .unOp op _ x=>bG (unS cfg.wrap op (cD tm x))
 | .convert s d x=>
   match eD cfg.P s d with
   | 1=>rZ cfg H d (cD tm x)
   | 2=>bG (jL cfg H s (cD tm x))
   | 3=>NG cfg.P H s d (cD tm x)
   | _=>bG (Tp cfg.P cfg.wrap s d (cD tm x))
 | .slice t x lo hi mx=>bG (jM cfg.P H t (cD tm x) (lo.map (cD tm)) (hi.map (cD tm)) (mx.map (cD tm)))
 | .fieldAddr t x f=>
   match cD tm x,cfg.P.underlying t with
   | .c (.ptr h i o),some (.struct fs)=>match fs[f]? with
     | some fl=>if cfg.P.cellsOf fl.type=0 then .fail else .ret {v:=.c (.ptr h i (o+fl.offset)),H:=H}
     | none=>.fail
   | _,_=>.fail
 | .field t x f=>
   match cD tm x,cfg.P.underlying t with
   | .agg cs,some (.struct fs)=>match fs[f]? with
     | some fl=>if (cfg.P.underlying fl.type).isSome then bG (BR cfg.P fl.type cs fl.offset) else .fail
     | none=>.fail
   | _,_=>.fail
 | .indexAddr t x ix=>bG (dw cfg.P H t (cD tm x) (cD tm ix))
 | .index t x ix=>bG (Kj cfg t (cD tm x) (cD tm ix))
 | .extract t i=>
   match cD tm t with
   | .aP vs=>match vs[i]? with
     | some v=>.ret {v:=v,H:=H}
     | none=>.fail
   | _=>.fail
 | .makeSlice t n c=>
   match cfg.P.underlying t,cD tm n,cD tm c with
   | some (.slice e),.c (.int _ n),.c (.int _ c)=>
     match cfg.tv e,zeroCells cfg.P e with
     | some u,some z=>
       if (cod u).ok z∧cfg.P.cellsOf e=(cod u).size∧cfg.P.bytesOf e≤100000 then
        .aa (0≤n∧n≤1000000∧c=n) (gh H (.arr u (List.replicate n.toNat ((cod u).dec z)) e) (.c (.ai H.length 0 n.toNat true)))
       else .fail
     | _,_=>.fail
   | _,_,_=>.fail
 | .makeFunc (.func f) first dC=>
   if first.size=0 then
    match xu (dC.toList.map (cD tm)) with
    | some l=>.ret {v:=.c (.fn f l),H:=H}
    | none=>.fail
   else .fail
 | .call {callee:=.builtin b,args,argTypes}=>dc cfg H b argTypes (args.toList.map (cD tm))
 | .call {callee:=.value f,args,.. }=>
   match cD tm f with
   | .c (.fn g dC)=>if jY cfg.P g=true then bG (TN cfg.P g (args.toList.map (cD tm)++dC.map fun c=>.c (.ptr c.1 c.2.1 c.2.2))) else mh cfg H g (args.toList.map (cD tm)++dC.map fun c=>.c (.ptr c.1 c.2.1 c.2.2))
   | _=>.fail
 | _=>.fail
def St.put (st:St cod) (d:Option Nat) (o:Out cod):St cod:=
 let tm:=match o.kill with
  | []=>st.tmps
  | ks=>st.tmps.map (SV.aX (Cell.bR ks))
 {tmps:=match d with
  | none=>tm
  | some d=>tm.set d o.v,heap:=o.H}
def fC (ops:Array Oper) (st:St cod) (j:Nat):SV:=
 match (ops[j]?).bind (·.dst) with
 | none=>ik
 | some d=>st.tmps.getD d (.c .eJ)
def St.ry (st:St cod) (d:Option Nat) (b:Bool):St cod:=
 match d with
 | none=>st
 | some d=>{st with tmps:=st.tmps.set d (.c (.bool b))}
def b7 (o:Oper):Bool:=
 match o.op with
 | .buildSlice _ _ _=>true
 | .makeSlice _ _ _=>true
 | .call {callee:=.builtin .append,.. }=>true
 | _=>false
def av.isRow:av cod→Bool
 | .arr _ _ _ | .own _ _ _=>true
 | _=>false
def uW (H:Heap cod) (k:Nat) (out:Out cod):T (Out cod):=
 match out.kill,out.H.drop H.length,out.v with
 | [],[ob],.c (.ai h 0 n t)=>if h=H.length∧(getObj H k).aV=true∧ob.isRow=true then .ret {v:=.c (.ai k 0 n t),H:=H.set k ob} else .fail
 | [],[ob],.c (.own h n)=>if h=H.length∧(getObj H k).aV=true∧ob.isRow=true then .ret {v:=.c (.own k n),H:=H.set k ob} else .fail
 | [h'],[],.c (.own h n)=>if h'=h∧(getObj H k).aV=true∧(getObj H h).bQ=true∧(getObj out.H h).bQ=true then .ret {v:=.c (.own k n),H:=(H.set h .dead).set k (getObj out.H h)} else .fail
 | [],[],.c (.ai h i n t)=>if (getObj H k).aV=true then .ret {v:=.c (.ai h i n t),H:=H} else .fail
 | _,_,_=>.fail
def pk (tm:List SV) (o:Oper):List Nat:=
 match o.op with
 | .call {callee:=.builtin .append,args,.. }=>match args.toList.map (cD tm) with
   | [.c (.own h _),_]=>[h]
   | _=>[]
 | _=>[]
def p8 (cfg:aT cod) (tm:List SV) (H:Heap cod) (o:Oper):T (Out cod):=
 match b7 o,o.dst.bind cfg.place with
 | true,some k=>(iB cfg tm H o).bind (uW H k)
 | _,_=>iB cfg tm H o
def mv (cfg:aT cod) (o:Oper) (st:St cod):T (St cod):=(p8 cfg st.tmps st.heap o).bind fun out=>.ret (st.put o.dst out)
def zl (o:Oper) (st:St cod):St cod:=st.put o.dst {v:=ik,H:=st.heap}
def vt:Operand→Option Nat
 | .tmp t=>some t
 | _=>none
def Cg {R:Type} (cfg:aT cod) (o:Oper) (st:St cod) (next:St cod→T R):T R:=
 match o.op with
 | .pick c a b=>match cD st.tmps c with
   | .c (.bool q)=>cond q (next ((st.ry (vt c) true).put o.dst {v:=cD st.tmps a,H:=st.heap})) (next ((st.ry (vt c) false).put o.dst {v:=cD st.tmps b,H:=st.heap}))
   | _=>.fail
 | _=>(mv cfg o st).bind next
def ij {R:Type} (cfg:aT cod) (ops:Array Oper):List Oper→St cod→(St cod→T R)→T R
 | [],st,k=>k st
 | o::rest,st,k=>
   match o.guard with
   | none=>Cg cfg o st fun s=>ij cfg ops rest s k
   | some (j,want)=>
     match fC ops st j with
     | .c (.bool b)=>
       cond b (cond (true==want) (Cg cfg o (st.ry ((ops[j]?).bind (·.dst)) true) fun s=>ij cfg ops rest s k) (ij cfg ops rest (zl o (st.ry ((ops[j]?).bind (·.dst)) true)) k))
        (cond (false==want) (Cg cfg o (st.ry ((ops[j]?).bind (·.dst)) false) fun s=>ij cfg ops rest s k) (ij cfg ops rest (zl o (st.ry ((ops[j]?).bind (·.dst)) false)) k))
     | .c (.raw (.tuple ⟨[]⟩))=>ij cfg ops rest (zl o st) k
     | _=>.fail
end
end Sym
namespace Sym
open Go.RowKit
theorem ti {α:Type}:∀(x:Ask α) (w:World),w.drawn≤(w.ask x).2.drawn
 | .done a,w=>Nat.le_refl _
 | .ask alC range k,w=>by
   unfold World.ask;simp only;split
   ·exact ti _ w
   ·exact Nat.le_trans (Nat.le_succ _) (ti _ {w with drawn:=w.drawn+1})
theorem Q9 (w:World) (c:Sys):w.drawn≤(w.sys c).2.drawn:=by
 unfold World.sys;have h:=ti (Kernel.perform c w.os) w;split
 ·exact Nat.le_refl _
 ·rename_i r os w' e;rw [e] at h;exact h
theorem vJ {p:Program} {w:World} {at_:Addr} {u:TypeId} {k:Addr} {v:Value} {atomic:Bool} {r:World×List Addr} (h:w.viewStore p at_ u k v atomic= .ok r):w.drawn≤r.1.drawn:=by
 unfold World.viewStore at h;simp only [bind,Except.bind,pure,Except.pure] at h
 (repeat' split at h)<;>first | (cases h;exact Nat.le_refl _) | cases h
theorem x0 {p:Program} {w:World} {a:Addr} {v:Value} {atomic:Bool} {r:World×List Addr} (h:w.farStore p a v atomic= .ok r):w.drawn≤r.1.drawn:=by
 unfold World.farStore at h;split at h
 ·split at h
  ·rename_i hv;cases h;exact vJ hv
  ·cases h
 ·cases h
theorem Ds (w:World) (a:Addr) (n:Nat):(w.freeze a n).drawn=w.drawn:=by
 unfold World.freeze;split<;>rfl
theorem cg {α:Type} (P:Program):∀(s:Sem α) (w:World) (a:α) (w':World),s.run P w= .ok a w'→w.drawn≤w'.drawn
 | .pure x,w,a,w',h=>by
   simp only [Sem.run,Result.ok.injEq] at h;rw [h.2]
   exact Nat.le_refl _
 | .load m x k,w,a,w',h=>by
   simp only [Sem.run] at h;split at h
   ·exact cg P _ w a w' h
   ·split at h
    ·exact cg P _ w a w' h
    ·cases h
 | .store m x v k,w,a,w',h=>by
   cases v<;>simp only [Sem.run] at h<;>first
    | (cases h;done)
    | (split at h
       ·split at h
        ·cases h
        ·have q:=cg P k _ a w' h;exact q
       ·split at h
        ·rename_i hf;have q:=cg P k _ a w' h;exact Nat.le_trans (x0 hf) q
        ·cases h)
 | .new o k,w,a,w',h=>by
   simp only [Sem.run] at h;have q:=cg P _ _ a w' h
   exact q
 | .shape r k,w,a,w',h=>by
   simp only [Sem.run] at h
   exact cg P _ _ a w' h
 | .freeze x n k,w,a,w',h=>by
   simp only [Sem.run] at h;have:=cg P k _ a w' h;rw [Ds] at this
   exact this
 | .frozen x k,w,a,w',h=>by
   simp only [Sem.run] at h
   exact cg P _ _ a w' h
 | .getObj r k,w,a,w',h=>by
   simp only [Sem.run] at h;split at h
   ·cases h
   ·exact cg P _ _ a w' h
   ·cases h
 | .setObj r o k,w,a,w',h=>by
   simp only [Sem.run] at h;split at h
   ·cases h
   ·have q:=cg P k _ a w' h;exact q
   ·cases h
 | .choose q k,w,a,w',h=>by
   simp only [Sem.run] at h;split at h
   ·exact cg P _ _ a w' h
   ·exact Nat.le_trans (Nat.le_succ _) (cg P _ _ a w' h)
 | .sys c k,w,a,w',h=>by
   simp only [Sem.run] at h
   exact Nat.le_trans (Q9 w c) (cg P _ _ a w' h)
 | .program k,w,a,w',h=>by
   simp only [Sem.run] at h
   exact cg P _ _ a w' h
 | .mark m k,w,a,w',h=>by
   simp only [Sem.run] at h
   exact cg P k _ a w' h
 | .halt x,w,a,w',h=>by
   simp only [Sem.run] at h;cases h
end Sym
end Go.Proofs.YtcjagpfbhnmggaaGreatDoor
