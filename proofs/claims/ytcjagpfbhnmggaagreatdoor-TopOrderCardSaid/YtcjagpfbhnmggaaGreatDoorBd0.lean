/- Parts of the proof. -/
import Derived.WalkKit
import Derived.ProofKit
namespace Go.Proofs.YtcjagpfbhnmggaaGreatDoor
namespace Sym
open Go.RowKit
inductive T (α:Type):Type where
 | ret (a:α)
 | ite (c:Bool) (t e:T α)
 | aa (p:Prop) (t:T α)
 | fail
section
variable {α β:Type}
def T.bind:T α→(α→T β)→T β
 | .ret a,k=>k a
 | .ite c t e,k=>.ite c (t.bind k) (e.bind k)
 | .aa p t,k=>.aa p (t.bind k)
 | .fail,_=>.fail
def T.wp:T α→(α→Prop)→Prop
 | .ret a,Q=>Q a
 | .ite c t e,Q=>(c=true→t.wp Q)∧(c=false→e.wp Q)
 | .aa p t,Q=>p∧t.wp Q
 | .fail,_=>False
def T.ah (t:T α) (a:α):Prop:=t.wp (·=a)
theorem T.wp_mono {t:T α} {Q R:α→Prop} (h:∀a,Q a→R a) (ht:t.wp Q):t.wp R:=by
 induction t with
 | ret a=>exact h a ht
 | ite c t e iht ihe=>exact ⟨fun hc=>iht (ht.1 hc),fun hc=>ihe (ht.2 hc)⟩
 | aa p t ih=>exact ⟨ht.1,ih ht.2⟩
 | fail=>exact ht
theorem T.wp_bind {t:T α} {k:α→T β} {Q:β→Prop}:(t.bind k).wp Q↔t.wp fun a=>(k a).wp Q:=by
 induction t with
 | ret a=>exact Iff.rfl
 | ite c t e iht ihe=>simp only [T.bind,T.wp,iht,ihe]
 | aa p t ih=>simp only [T.bind,T.wp,ih]
 | fail=>exact Iff.rfl
theorem T.jP {t:T α} {Q:α→Prop} (h:t.wp Q):∃a,t.ah a∧Q a:=by
 induction t with
 | ret a=>exact ⟨a,rfl,h⟩
 | ite c t e iht ihe=>
   cases c with
   | true=>
     obtain ⟨a,h1,h2⟩:=iht (h.1 rfl)
     exact ⟨a,⟨fun _=>h1,(fun hc=>by cases hc)⟩,h2⟩
   | false=>
     obtain ⟨a,h1,h2⟩:=ihe (h.2 rfl)
     exact ⟨a,⟨(fun hc=>by cases hc),fun _=>h1⟩,h2⟩
 | aa p t ih=>
   obtain ⟨a,h1,h2⟩:=ih h.2
   exact ⟨a,⟨h.1,h1⟩,h2⟩
 | fail=>exact h.elim
theorem T.T9 {t:T α} {Q:α→Prop} {a:α} (h:t.ah a) (hq:Q a):t.wp Q:=T.wp_mono (fun b hb=>by subst hb;exact hq) h
theorem T.aw {t:T α} {k:α→T β} {b:β}:(t.bind k).ah b↔∃a,t.ah a∧(k a).ah b:=by
 unfold T.ah;rw [T.wp_bind];constructor
 ·intro h;obtain ⟨a,h1,h2⟩:=T.jP h;exact ⟨a,h1,h2⟩
 ·rintro ⟨a,h1,h2⟩;exact T.T9 h1 h2
theorem T.ad {a b:α}:(T.ret a).ah b↔a=b:=Iff.rfl
theorem T.ak {p:Prop} {t:T α} {b:α}:(T.aa p t).ah b↔p∧t.ah b:=Iff.rfl
theorem T.fY {c:Bool} {t e:T α} {b:α}:(T.ite c t e).ah b↔(if c then t else e).ah b:=by
 cases c
 ·exact ⟨fun h=>h.2 rfl,fun h=>⟨(fun hc=>by cases hc),fun _=>h⟩⟩
 ·exact ⟨fun h=>h.1 rfl,fun h=>⟨fun _=>h,(fun hc=>by cases hc)⟩⟩
end
inductive Cell:Type where
 | int (k:IntKind) (n:Int)
 | bool (b:Bool)
 | str (s:List UInt8)
 | ptr (h i o:Nat)
 | ai (h i n:Nat) (t:Bool)
 | own (h n:Nat)
 | nil
 | fn (f:FuncId) (dC:List (Nat×Nat×Nat))
 | raw (v:Value)
 | eJ
 deriving Inhabited
inductive SV:Type where
 | c (x:Cell)
 | agg (cs:List Cell)
 | aP (vs:List SV)
 deriving Inhabited
def Cell.scalar:Cell→Bool
 | .int _ _ | .bool _ | .str _=>true
 | _=>false
def Cell.val:Cell→Value
 | .int k n=>.int k n
 | .bool b=>.bool b
 | .str s=>.string ⟨s.toArray⟩
 | _=>.tuple #[]
def Cell.one:Cell→Bool
 | .raw v=>v.oneCell'
 | .eJ=>false
 | _=>true
structure aO:Type 1 where
 α:Type
 enc:α→List Cell
 dec:List Cell→α
 ok:List Cell→Bool
 size:Nat
 d:α
 size_eq:∀a,(enc a).length=size
 l3:∀a,(enc a).all Cell.scalar=true
 ck:∀e,ok e=true→enc (dec e)=e
 pos:0 < size
def Cell.ofValue:Value→Cell
 | .int k n=>.int k n
 | .bool b=>.bool b
 | .string s=>.str s.data.toList
 | .slice none 0 0=>.nil
 | .func (.func f) ⟨[]⟩ ⟨[]⟩=>.fn f []
 | v=>.raw v
def SV.ofValue:Value→SV
 | .agg cs=>.agg (cs.toList.map Cell.ofValue)
 | v=>.c (Cell.ofValue v)
def SV.cells:SV→List Cell
 | .c x=>[x]
 | .agg cs=>cs
 | .aP _=>[.eJ,.eJ]
section
variable (cod:Nat→aO)
inductive av:Type where
 | aF (cs:List Cell) (ty:TypeId)
 | aY (cs:List Cell)
 | gL (cs:List Cell)
 | arr (t:Nat) (l:List (cod t).α) (ty:TypeId)
 | own (t:Nat) (l:List (cod t).α) (ty:TypeId)
 | aB (t:Nat) (l:List (cod t).α)
 | cL (t:Nat) (LL:List (List (cod t).α)) (op:Option (Nat×Cell))
 | iC (pre:List Cell) (t:Nat) (n:Nat) (l:List (cod t).α) (post:List Cell) (ty:TypeId)
 | cj (t:Nat) (LL:List (List (cod t).α)) (js:List Nat) (cs:List Cell) (ty tyr:TypeId)
 | dead
def av.rows (t:Nat):av cod→Option (List (cod t).α)
 | .arr u l _=>if h:u=t then some (h▸l) else none
 | .own u l _=>if h:u=t then some (h▸l) else none
 | .aB u l=>if h:u=t then some (h▸l) else none
 | _=>none
abbrev Heap:=List (av cod)
structure St where
 tmps:List SV
 heap:Heap cod
abbrev aH:=List SV→Heap cod→T (SV×Heap cod)
structure aT where
 P:Program
 tv:TypeId→Option Nat
 lB:FuncId→Option (aH cod)
 quiet:FuncId→Bool
 wrap:Bool
 Ch:FuncId→Option (Bool×aH cod):=fun _=>none
 place:Nat→Option Nat:=fun _=>none
 emp:Bool:=false
 Ys:Bool:=false
variable {cod}
def getObj (H:Heap cod) (h:Nat):av cod:=H.getD h .dead
def dm (P:Program) (t:TypeId):Bool:=
 match P.underlying t with
 | some (.struct _) | some (.array _ _)=>true
 | _=>false
def BS (m i:Nat):List Nat→List Cell→T (List Cell)
 | [j],[c]=>.aa (i=j∧j < m) (.ret [c])
 | j::js,c::cs=>.ite (decide (i=j)) (.aa (j < m) (.ret [c])) (BS m i js cs)
 | _,_=>.fail
def fH (H:Heap cod) (h i o n:Nat):T (List Cell):=
 match getObj H h with
 | .aF cs _ | .aY cs | .gL cs=>if i=0∧o+n≤cs.length then .ret ((cs.drop o).take n) else .fail
 | .arr t l _ | .own t l _ | .aB t l=>if o+n≤(cod t).size then .aa (i < l.length) (.ret ((((cod t).enc (l.getD i (cod t).d)).drop o).take n)) else if i=0∧o=0 then .aa (l.length*(cod t).size=n) (.ret (l.flatMap (cod t).enc)) else .fail
 | .cL _ LL op=>match op with
   | some (j,c)=>if o=0∧n=1 then .aa (i=j∧j < LL.length) (.ret [c]) else .fail
   | none=>.fail
 | .iC pre t m l post _=>
   if pre.length≤o∧o+n≤pre.length+(cod t).size then .aa (i < m) (.ret ((((cod t).enc (l.getD i (cod t).d)).drop (o - pre.length)).take n))
   else if i=0∧o+n≤pre.length∧((pre.drop o).take n).all Cell.scalar=true then .ret ((pre.drop o).take n)
   else if i=0∧o=pre.length∧n=m*(cod t).size then .ret (l.flatMap (cod t).enc)
   else if i=0∧pre.length+m*(cod t).size≤o∧o+n≤pre.length+m*(cod t).size+post.length∧((post.drop (o - (pre.length+m*(cod t).size))).take n).all Cell.scalar=true then .ret ((post.drop (o - (pre.length+m*(cod t).size))).take n)
   else .fail
 | .cj _ LL js cs _ _=>if o=0∧n=1 then BS LL.length i js cs else .fail
 | .dead=>.fail
def cS (cs:List Cell) (o:Nat) (xs:List Cell):List Cell:=cs.take o++(xs++cs.drop (o+xs.length))
def ky (H:Heap cod) (h i o:Nat) (xs:List Cell):T (Heap cod):=
 match getObj H h with
 | .aF cs ty=>if i=0∧o+xs.length≤cs.length∧xs.all Cell.one then .ret (H.set h (.aF (cS cs o xs) ty)) else .fail
 | .arr t l ty=>
   if o+xs.length≤(cod t).size∧(cod t).ok (cS ((cod t).enc (l.getD i (cod t).d)) o xs)=true then
    .aa (i < l.length) (.ret (H.set h (.arr t (l.set i ((cod t).dec (cS ((cod t).enc (l.getD i (cod t).d)) o xs))) ty))) else .fail
 | .own t l ty=>
   if o+xs.length≤(cod t).size∧(cod t).ok (cS ((cod t).enc (l.getD i (cod t).d)) o xs)=true then
    .aa (i < l.length) (.ret (H.set h (.own t (l.set i ((cod t).dec (cS ((cod t).enc (l.getD i (cod t).d)) o xs))) ty))) else .fail
 | .iC pre t m l post ty=>
   if pre.length≤o∧o+xs.length≤pre.length+(cod t).size∧(cod t).ok (cS ((cod t).enc (l.getD i (cod t).d)) (o - pre.length) xs)=true then
    .aa (i < m) (.ret (H.set h (.iC pre t m (l.set i ((cod t).dec (cS ((cod t).enc (l.getD i (cod t).d)) (o - pre.length) xs))) post ty)))
   else if i=0∧o+xs.length≤pre.length∧xs.all Cell.scalar=true then .ret (H.set h (.iC (cS pre o xs) t m l post ty))
   else if i=0∧pre.length+m*(cod t).size≤o∧o+xs.length≤pre.length+m*(cod t).size+post.length∧xs.all Cell.scalar=true then .ret (H.set h (.iC pre t m l (cS post (o - (pre.length+m*(cod t).size)) xs) ty))
   else .fail
 | _=>.fail
def chunks (k:Nat):Nat→List Cell→List (List Cell)
 | 0,_=>[]
 | n+1,cs=>cs.take k::chunks k n (cs.drop k)
def xQ (c:aO) (n:Nat) (cs:List Cell):Option (List c.α):=
 let l:=chunks c.size n cs
 if l.all c.ok∧cs.length=n*c.size then some (l.map c.dec) else none
def ae (n:Int):Prop:=-9223372036854775808≤n∧n≤9223372036854775807
def arith (wrap:Bool) (k:IntKind) (n:Int):T SV:=
 match wrap,k with
 | false,.i64=>.aa (ae n) (.ret (.c (.int .i64 n)))
 | _,_=>.ret (.c (.int k (k.wrap n)))
def cM (b:Bool):T SV:=.ret (.c (.bool b))
def JN (rec:TypeId→List Cell→List Cell→Option Bool) (P:Program) (cs ds:List Cell):List Field→Option Bool
 | []=>some true
 | f::fs=>
   if f.name= "_" ∨(P.cellsOf f.type≠1∧dm P f.type=false) then none else
   match rec f.type ((cs.drop f.offset).take (P.cellsOf f.type)) ((ds.drop f.offset).take (P.cellsOf f.type)) with
   | none=>none
   | some b=>match fs with
     | []=>some b
     | _=>match JN rec P cs ds fs with
       | some c=>some (b&&c)
       | none=>none
def eqT (P:Program):Nat→TypeId→List Cell→List Cell→Option Bool
 | 0,_,_,_=>none
 | d+1,t,cs,ds=>
   match P.underlying t with
   | some .bool=>match cs,ds with
     | [.bool a],[.bool b]=>some (a==b)
     | _,_=>none
   | some (.int _)=>match cs,ds with
     | [.int k a],[.int k' b]=>if k=k' then some (decide (a=b)) else none
     | _,_=>none
   | some .string=>match cs,ds with
     | [.str a],[.str b]=>some (decide (a=b))
     | _,_=>none
   | some (.struct fs)=>if P.stoodInHeld t=true then none else JN (eqT P d) P cs ds fs.toList
   | _=>none
end
end Sym
namespace Sym
def W5:List (Nat×List Value):=[
 (1,[.float .f64 13666448263388469915,.float .f64 4477121864728985349,.float .f64 13732177093698800582,.float .f64 4537941361668146421,.float .f64 13787419979223748497,.float .f64 4586165620538955083]),
 (2,[.float .f64 4460209587652500685,.float .f64 13716528389658582877,.float .f64 4523617212962785441,.float .f64 13774824197404483331,.float .f64 4575957461383575504,.float .f64 13818544856648471880])]
def Rb:List (Nat×(Array Value→Prop)):=W5.map fun p=>(p.1,fun cs=>cs=p.2.toArray)
theorem aak:∀p∈W5,(p.1,fun cs:Array Value=>cs=p.2.toArray)∈Rb:=fun p h=>List.mem_map.2 ⟨p,h,rfl⟩
abbrev dl (w:World):Nat:=w.drawn
theorem re {w w':World} (h:w.drawn≤w'.drawn):dl w≤dl w':=h
end Sym
end Go.Proofs.YtcjagpfbhnmggaaGreatDoor
