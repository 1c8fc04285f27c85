/- Parts of the proof. -/
import Derived.Test.YtcjagpfbhnmggaaGreatDoorBd39
namespace Go.Proofs.YtcjagpfbhnmggaaGreatDoor
section
open Sym
theorem EQ {i st t x y sx sy h r ra c hi mi sl lt lx ly lh lc le:Int} (e:F.aM i st t x y sx sy h r ra c hi mi sl lt lx ly lh lc le=0):F.lC t x y h ra c=0:=by
 unfold F.aM at e;by_cases h1:F.lC t x y h ra c=0
 ·exact h1
 ·rw [if_neg h1] at e;exact absurd e h1
theorem D4 {i st t x y sx sy h r ra c hi mi sl lt lx ly lh lc le n a:Int} (e:F.cn i st t x y sx sy h r ra c hi mi sl lt lx ly lh lc le n a=0):F.aM i st t x y sx sy h r ra c hi mi sl lt lx ly lh lc le=0:=by
 unfold F.cn at e;split at e
 ·assumption
 ·exact e
theorem adr {x:F.cU} {n a:Int} (e:F.D3 x n a=0):F.G5 (F.prd x n a)=0∧(F.prd x n a).t.tm=n:=by
 unfold F.D3 at e;have h1:=D4 e;obtain ⟨_,_,_,h2⟩:=yK e h1;constructor
 ·unfold F.G5 F.prd;simp only [e,z0];exact h2
 ·show F.z _ n=n;rw [e];rfl
theorem ZA {x:F.cU} (h:F.G5 x=0):F.ctk x.t=0:=EQ h
theorem qE (x:List F.bJ) (time a:Int):(F.Ab x time a).length≤x.length:=List.length_filter_le _ _
theorem wo (x:List F.bJ) (time a:Int):(F.Xa x time a).length=(F.Ab x time a).length:=List.length_map ..
theorem aar {x:List F.bJ} {time a:Int} {t:F.dT} (h:t∈F.Xa x time a):F.ctk t=0∧t.tm=time:=by
 obtain ⟨y,h1,rfl⟩:=List.mem_map.1 h;have h2:=(List.mem_filter.1 h1).2;obtain ⟨h3,h4⟩:=adr (of_decide_eq_true h2);exact ⟨ZA h3,h4⟩
theorem TD (band:Int):∀(l os:List F.Sp),∀s∈F.dd band l os,s∈l∨s∈os
 | [],os,s,h=>.inr h
 | x::l,os,s,h=>by
   unfold F.dd at h;rcases TD band l _ s h with h | h
   ·exact .inl (List.mem_cons_of_mem _ h)
   ·split at h
    ·exact .inr h
    ·rcases List.mem_append.1 h with h | h
     ·exact .inr h
     ·exact .inl (by rw [List.mem_singleton.1 h];exact List.mem_cons_self ..)
theorem JH (band:Int):∀(l os:List F.Sp),os.length≤(F.dd band l os).length∧(F.dd band l os).length≤os.length+l.length
 | [],os=>⟨Nat.le_refl _,Nat.le_refl _⟩
 | x::l,os=>by
   unfold F.dd;have ih:=JH band l (if F.vw (F.zX band x) os os.length 0 then os else os++[x]);rw [List.length_cons];split at ih
   ·rename_i h;rw [if_pos h];omega
   ·rename_i h;rw [if_neg h];rw [List.length_append,List.length_singleton] at ih;omega
theorem QX {l:List F.Sp} {band:Int} {s:F.Sp} (h:s∈F.bI l band):s∈l:=by
 unfold F.bI at h;rcases TD _ _ _ _ h with h | h
 ·exact (fR l).mem_iff.1 h
 ·cases h
theorem oD (l:List F.Sp) (band:Int):(F.bI l band).length≤l.length∧(0 < l.length→0 < (F.bI l band).length):=by
 unfold F.bI;have e:=uh l;have:=JH band (F.iE l) [];rw [List.length_nil] at this;refine ⟨by omega,fun h=>?_⟩
 match hs:F.iE l with
 | []=>rw [hs] at e;simp at e;omega
 | x::t=>
   have e1:F.dd band (x::t) []=F.dd band t ([]++[x]):=rfl;rw [e1];have:=(JH band t ([]++[x])).1;exact Nat.lt_of_lt_of_le (by simp) this
theorem adE {l:List F.Sp} {time:Int} (h:F.ft l time):F.wm l 500=0:=by
 obtain ⟨h1,_,h2⟩:=h
 have key:∀(m j:Nat),j+m≤l.length→F.J2 l m j=0:=fun m=>by
  induction m with
  | zero=>intro j _;rfl
  | succ m ih=>
    intro j hj;unfold F.J2;rw [if_pos (h2 _ (dM (by omega))).1];exact ih (j+1) (by omega)
 unfold F.wm;rw [if_neg (by omega),if_pos (key l.length 0 (by omega))];rfl
theorem Zz {x:List F.bJ} {l:List F.Sp} {time a la:Int} (h:F.ft l time) (hla:la < time) (hx:x.length≤32) (hs:x.length=0∨0 < l.length):F.Qg (F.Xa x time a) (F.bI l 500) (F.Xz la time):=by
 obtain ⟨h1,h2,h3⟩:=h;have e1:=qE x time a;have e2:=wo x time a;have e3:=oD l 500;refine ⟨by omega,by omega,?_,fun t ht s hs=>?_⟩
 ·rcases hs with h | h
  ·exact .inl (List.eq_nil_of_length_eq_zero (by omega))
  ·exact .inr (e3.2 h)
 ·obtain ⟨t1,t2⟩:=aar ht;obtain ⟨s1,s2⟩:=h3 s (QX hs);refine ⟨t1,s1,?_,by rw [t2,s2]⟩;unfold F.Xz;split
  ·omega
  ·omega
theorem xW:∀{l:List Int},(∀c∈l,-1≤c∧c≤1099511627776)→F.JM l=0
 | [],_=>rfl
 | c::t,h=>by
   unfold F.JM;have:=h c (List.mem_cons_self ..);rw [if_neg (by omega)];exact xW fun c hc=>h c (List.mem_cons_of_mem _ hc)
theorem rL {n:Nat}:∀{l:List (List Int)},(∀r∈l,F.rwE n r=0)→F.tV n l=0
 | [],_=>rfl
 | r::t,h=>by
   unfold F.tV;rw [if_pos (h r (List.mem_cons_self ..))];exact rL fun c hc=>h c (List.mem_cons_of_mem _ hc)
theorem Ym (band:Int) (t:F.dT) (s:F.Sp): -1≤F.tu band t s∧F.tu band t s≤1073741824:=by
 unfold F.tu;split
 ·unfold F.sqc
  have h1:0≤F.iw t.x t.y s.2.1 s.2.2.1:=by
   unfold F.iw;have:=jZ (t.x - s.2.1);have:=jZ (t.y - s.2.2.1);omega
  have h2:0≤(F.iw t.x t.y s.2.1 s.2.2.1).tdiv 10000:=Int.tdiv_nonneg h1 (by decide);omega
 ·omega
theorem tq {l:List F.dT} {s:List F.Sp} {band:Int} {r:List Int} (h:r∈F.jB l s band):r.length=s.length∧∀c∈r,-1≤c∧c≤1073741824:=by
 obtain ⟨t,_,rfl⟩:=List.mem_map.1 h;refine ⟨List.length_map ..,fun c hc=>?_⟩;obtain ⟨x,_,rfl⟩:=List.mem_map.1 hc;exact Ym band t x
theorem tp (l:List F.dT) (s:List F.Sp) (band:Int):(F.jB l s band).length=l.length:=List.length_map ..
theorem Tr {l:List F.dT} {s:List F.Sp} {band:Int} (hl:l.length≤32) (hs:s.length≤32):F.cE (F.jB l s band) 2147483648=0:=by
 have e:=tp l s band;unfold F.cE;rw [if_neg (by omega),if_pos,if_neg (by omega)];refine rL fun r hr=>?_;obtain ⟨h1,h2⟩:=tq hr;unfold F.rwE
 have h3:((F.jB l s band).getD 0 []).length=s.length:=by
  have:0 < (F.jB l s band).length:=List.length_pos_of_mem hr;rw [List.getD_eq_getElem?_getD,List.getElem?_eq_getElem this];exact (tq (List.getElem_mem this)).1
 rw [if_neg (by omega),if_neg (by rw [h3];exact fun h=>h h1)];exact xW fun c hc=>by have:=h2 c hc;omega
theorem abM (bm:Int) (r:List Int) (rs:List (List Int)) (tk:List Bool) (left:Int) (q k:Nat): -1≤F.Tb bm r rs tk left q k∧F.Tb bm r rs tk left q k < k+q:=by
 rcases F.FF bm r rs tk left q k with ⟨h,_⟩ | ⟨j,h,h1,h2,_⟩
 ·rw [h];omega
 ·rw [h];omega
theorem Dv (bm:Int) (n:Nat):∀(rs:List (List Int)) (tk:List Bool) (left:Int),(∀r∈rs,r.length=n)→∀c∈F.Rp bm rs tk left,-1≤c∧c < n
 | [],_,_,_,c,hc=>by cases hc
 | r::rs,tk,left,hr,c,hc=>by
   have hn:=hr r (List.mem_cons_self ..);have EY:=fun r' h=>hr r' (List.mem_cons_of_mem _ h);unfold F.Rp at hc;split at hc
   ·rcases List.mem_cons.1 hc with h | h
    ·omega
    ·exact Dv bm n rs _ _ EY c h
   ·dsimp only at hc;have hb:=abM bm r rs tk left r.length 0;split at hc
    ·rcases List.mem_cons.1 hc with h | h
     ·omega
     ·exact Dv bm n rs _ _ EY c h
    ·rcases List.mem_cons.1 hc with h | h
     ·omega
     ·exact Dv bm n rs _ _ EY c h
theorem afT {x:List F.bJ} {l:List F.Sp} {time a la:Int} (hx:x.length≤32) (hl:l.length≤32):(F.EI a x la (F.bI l 500) time).length=(F.Ab x time a).length∧∀c∈F.EI a x la (F.bI l 500) time,-1≤c∧c < (F.bI l 500).length:=by
 have e1:=qE x time a;have e2:=wo x time a;have e3:=(oD l 500).1;have hc:=Tr (l:=F.Xa x time a) (s:=F.bI l 500) (band:=F.Xz la time) (by omega) (by omega);unfold F.EI F.OE;rw [if_pos hc];refine ⟨?_,Dv _ _ _ _ _ fun r hr=>(tq hr).1⟩;rw [Dw,tp,e2]
theorem wq (n a pl sg:Int) (sp:List F.Sp) (al:List F.bJ) (to:List Int):∀q,(F.RF n a pl sg sp al to q).length≤q
 | 0=>Nat.le_refl _
 | q+1=>by
   unfold F.RF;rw [List.length_append];have:=wq n a pl sg sp al to q;have h:∀o:Option F.bJ,o.toList.length≤1:=fun o=>by cases o<;>simp
   have:=h (F.upS n a pl sg sp (al.getD q F.eK) (to.getD q 0));omega
theorem wu (a pl sg:Int) (sp:List F.Sp) (al:List F.bJ) (to:List Int):∀q,(F.Xf a pl sg sp al to q).length=sp.length
 | 0=>List.length_replicate
 | q+1=>by
   unfold F.Xf F.upU;split
   ·rw [List.length_set];exact wu a pl sg sp al to q
   ·exact wu a pl sg sp al to q
theorem we (us:List Bool) (sp:List F.Sp) (ta:List F.bJ) (nx:Int):∀q,(F.uZ us sp ta nx q).1.length≤ta.length+q∧nx≤(F.uZ us sp ta nx q).2∧(F.uZ us sp ta nx q).2≤nx+q
 | 0=>⟨Nat.le_refl _,Int.le_refl _,by show nx≤nx+((0:Nat):Int);omega⟩
 | q+1=>by
   have ih:=we us sp ta nx q;unfold F.uZ;split
   ·omega
   ·dsimp only;rw [List.length_append,List.length_singleton];omega
theorem MX (r1 r2:Int) (l:List F.bJ):(F.C7 r1 r2 l).length≤l.length:=List.length_filterMap_le _ _
theorem Dt (l:List F.bJ) (time:Int):(F.M7 l time).length≤l.length:=F.GC _ _
theorem M8 (l:List F.bJ) (time:Int):(F.Pg l time).length=l.length:=by
 unfold F.Pg F.fO;have:=F.GC (F.fsP l time) l;rw [List.length_append,List.length_replicate];omega
theorem T3 (l:List F.bJ) (time:Int):(F.Pg l time).take (F.M7 l time).length=F.M7 l time:=by
 unfold F.Pg F.fO;exact List.take_left
theorem ZU (n a pl sg:Int) (x:List F.bJ) (nx la:Int) (sp:List F.Sp) (time:Int):(F.scB n a pl sg x nx la sp time).1.length≤x.length+sp.length∧nx≤(F.scB n a pl sg x nx la sp time).2∧(F.scB n a pl sg x nx la sp time).2≤nx+sp.length:=by
 unfold F.scB;have h:=we (F.Xf a pl sg sp (F.Ab x time a) (F.EI a x la sp time) (F.Ab x time a).length) sp (F.RF n a pl sg sp (F.Ab x time a) (F.EI a x la sp time) (F.Ab x time a).length) nx sp.length;have h2:=wq n a pl sg sp (F.Ab x time a) (F.EI a x la sp time) (F.Ab x time a).length;have h3:=qE x time a;omega
end
end Go.Proofs.YtcjagpfbhnmggaaGreatDoor
