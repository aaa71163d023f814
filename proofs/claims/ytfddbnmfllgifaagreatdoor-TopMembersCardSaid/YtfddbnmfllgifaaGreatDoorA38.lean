/- Part of TopMembers. -/
import Derived.Test.YtfddbnmfllgifaaGreatDoorA19
import Derived.Test.YtfddbnmfllgifaaGreatDoorA26
set_option linter.unusedVariables false
set_option linter.unusedSimpArgs false
set_option maxHeartbeats 64000000
namespace Go.Proofs.YtfddbnmfllgifaaGreatDoor
open Go.RowKit Cod Top
def chN(c:Chg):List Int:=[c.k,c.d,c.p,c.v,c.c]
def chT(c:Chg):Tv:=eU ((chN c).map dL)
def bxT(b:Bx):Tv:=eU [dL b.n,dL b.l,dL b.u,jU b.b]
def wlT(b:Wl):Tv:=eU [dL b.d,dL b.u,jU b.b]
def iK(c:Cm):List Tv:=[dL c.f,dL c.e,jU c.par,dL c.au,eU (c.chs.map chT),eU (c.pth.map dL),eU (c.bxs.map bxT),eU (c.wls.map wlT),jU c.cnf,dL c.r,dL c.g]
def su(tag:List UInt8)(ts:List Tv):Dg:=Sha.tagged tag (dW (eU ts))
def RX:ByteArray:=⟨#[99,111,109,109,105,116]⟩
def QE:ByteArray:=⟨#[99,111,109,109,105,116,32,115,105,103,110]⟩
def aV(c:Cm):Dg:=su RX.data.toList (iK c)
def wR(c:Cm):Dg:=su QE.data.toList ((iK c).take 9)
theorem jP(c:Cm):(aV c).length=32:=pJ _ _
theorem x8(c:Cm):(wR c).length=32:=pJ _ _
theorem gz{a b:Int}(h:dL a=dL b):a=b:=by unfold dL at h;injection h
theorem qy{a b:List UInt8}(h:jU a=jU b):a=b:=by
 unfold jU at h;injection h with _ _ e _;injection e with e;have :=congrArg Array.toList e;simpa using this
theorem jq{a b:List Tv}(h:eU a=eU b):a=b:=by unfold eU at h;injection h
theorem kX{α β:Type}{f:α→β}(hf:∀a b,f a=f b→a=b):∀{l m:List α},l.map f=m.map f→l=m
 | [],[],_=>rfl
 | [],_::_,h=>by cases h
 | _::_,[],h=>by cases h
 | a::l,b::m,h=>by
   rw[Yw,Yw]at h;injection h with h1 h2;rw[hf _ _ h1,kX hf h2]
theorem Vs(a b:Chg)(h:chT a=chT b):a=b:=by
 have h2:=kX (fun _ _=>gz) (jq h);obtain⟨k,d,p,v,c⟩:=a;obtain⟨k',d',p',v',c'⟩:=b;unfold chN at h2;injection h2 with e1 h2;injection h2 with e2 h2;injection h2 with e3 h2;injection h2 with e4 h2;injection h2 with e5 h2;subst e1 e2 e3 e4 e5;rfl
theorem WM(a b:Bx)(h:bxT a=bxT b):a=b:=by
 have h2:=jq h;obtain⟨k,d,p,v⟩:=a;obtain⟨k',d',p',v'⟩:=b;injection h2 with e1 h2;injection h2 with e2 h2;injection h2 with e3 h2;injection h2 with e4 h2;have e1:=gz e1;have e2:=gz e2;have e3:=gz e3;have e4:=qy e4;subst e1 e2 e3 e4;rfl
theorem VS(a b:Wl)(h:wlT a=wlT b):a=b:=by
 have h2:=jq h;obtain⟨k,d,v⟩:=a;obtain⟨k',d',v'⟩:=b;injection h2 with e1 h2;injection h2 with e2 h2;injection h2 with e3 h2;have e1:=gz e1;have e2:=gz e2;have e3:=qy e3;subst e1 e2 e3;rfl
theorem QD(a b:Cm)(h:iK a=iK b):a=b:=by
 obtain⟨f,e,pa,au,ch,pt,bx,wl,cf,r,g⟩:=a;obtain⟨f',e',pa',af,ch',ag,bx',ah,cf',r',g'⟩:=b;unfold iK at h;injection h with e0 h;injection h with e1 h;injection h with e2 h;injection h with e3 h;injection h with e4 h;injection h with e5 h;injection h with e6 h;injection h with e7 h;injection h with e8 h;injection h with e9 h;injection h with ae h;have e0:=gz e0;have e1:=gz e1;have e2:=qy e2;have e3:=gz e3;have e4:=kX Vs (jq e4);have e5:=kX (fun _ _=>gz) (jq e5);have e6:=kX WM (jq e6);have e7:=kX VS (jq e7);have e8:=qy e8;have e9:=gz e9;have ae:=gz ae;subst e0 e1 e2 e3 e4 e5 e6 e7 e8 e9 ae;rfl
theorem iM(l:List Tv):cu (eU l)=fJ l:=by simp[eU,cu]
theorem gy(l:List Tv):cO (eU l)=dC l+1:=by simp[eU,cO]
theorem jO(n:Int):cO (dL n)=0:=by simp[dL,cO]
theorem oQ(l:List UInt8):cO (jU l)=0:=by simp[jU,cO]
theorem lD{α:Type}{f:α→Tv}(h:∀a,cu (f a)=true)(l:List α):fJ (l.map f)=true:=by
 induction l with
 | nil=>simp[fJ]
 | cons a l ih=>rw[Yw,lK,h,ih];rfl
theorem jW{α:Type}{f:α→Tv}{d:Nat}(h:∀a,cO (f a)≤d)(l:List α):dC (l.map f)≤d:=by
 induction l with
 | nil=>simp[dC]
 | cons a l ih=>rw[Yw,kE];exact Nat.max_le.2 ⟨h a,ih⟩
theorem Lt{l:List Tv}(h:∀t∈l,cu t=true):fJ l=true:=by
 induction l with
 | nil=>simp[fJ]
 | cons a l ih=>rw[lK,h a (by simp),ih (fun t ht=>h t (by simp[ht]))];rfl
theorem Iy{l:List Tv}{d:Nat}(h:∀t∈l,cO t≤d):dC l≤d:=by
 induction l with
 | nil=>simp[dC]
 | cons a l ih=>rw[kE];exact Nat.max_le.2 ⟨h a (by simp),ih (fun t ht=>h t (by simp[ht]))⟩
theorem Sj(c:Chg):cu (chT c)=true:=by unfold chT;rw[iM];exact lD kT _
theorem Ns(c:Chg):cO (chT c)≤1:=by unfold chT;rw[gy];have :=jW (f:=dL) (d:=0) (fun n=>by rw[jO];exact Ya 0) (chN c);omega
theorem Rk(c:Bx):cu (bxT c)=true:=by unfold bxT;rw[iM];simp[fJ,kT,pU]
theorem MK(c:Bx):cO (bxT c)≤1:=by unfold bxT;rw[gy];simp[dC,jO,oQ]
theorem Qw(c:Wl):cu (wlT c)=true:=by unfold wlT;rw[iM];simp[fJ,kT,pU]
theorem Ox(c:Wl):cO (wlT c)≤1:=by unfold wlT;rw[gy];simp[dC,jO,oQ]
theorem yw(c:Cm):∀t∈iK c,cu t=true∧cO t≤2:=by
 intro t ht;unfold iK at ht;simp only[List.mem_cons,List.not_mem_nil,or_false]at ht;have n1:∀n,cu (dL n)=true∧cO (dL n)≤2:=fun n=>⟨kT n,by rw[jO];decide⟩;have n2:∀n,cu (jU n)=true∧cO (jU n)≤2:=fun n=>⟨pU n,by rw[oQ];decide⟩;rcases ht with rfl | rfl | rfl | rfl | rfl | rfl | rfl | rfl | rfl | rfl | rfl
 · exact n1 _
 · exact n1 _
 · exact n2 _
 · exact n1 _
 · exact⟨by rw[iM];exact lD Sj _,by rw[gy];have :=jW Ns c.chs;omega⟩
 · exact⟨by rw[iM];exact lD kT _,by rw[gy];have :=jW (f:=dL) (d:=1) (fun n=>by rw[jO];decide) c.pth;omega⟩
 · exact⟨by rw[iM];exact lD Rk _,by rw[gy];have :=jW MK c.bxs;omega⟩
 · exact⟨by rw[iM];exact lD Qw _,by rw[gy];have :=jW Ox c.wls;omega⟩
 · exact n2 _
 · exact n1 _
 · exact n1 _
theorem Oa{l:List Tv}(h:∀t∈l,cu t=true∧cO t≤2):mi (eU l)=0∧cO (eU l)≤1000:=by
 have h1:=Lt (fun t ht=>(h t ht).1);have h2:=Iy (d:=2) (fun t ht=>(h t ht).2);refine⟨?_,by rw[gy];omega⟩;unfold mi;rw[iM,h1,gy,if_pos rfl,if_neg (by omega)]
theorem fD{l:List Tv}(h:l.length≤1000000):(dW (eU l)).length≤11+(fQ l).length:=by
 rw[Vm];have :=uw (u:=l.length) (by omega);simp only[Yr,Yf];omega
theorem iW{α:Type}{f:α→Tv}{K:Nat}:∀{l:List α},(∀a∈l,(dW (f a)).length≤K)→(fQ (l.map f)).length≤K*l.length
 | [],_=>by simp[fQ]
 | a::l,h=>by
   rw[Yw,nM,Yf,Yr];have h1:=h a (by simp);have h2:=iW (l:=l) (fun b hb=>h b (by simp[hb]));rw[Nat.mul_add,Nat.mul_one];omega
theorem iT{n:Int}(h:bQ n):(dW (dL n)).length≤11:=by
 have :=oM [n] (fun z hz=>by rw[Yp.1 hz];exact h);rw[Yw,List.map_nil,Fa]at this;simpa using this
theorem Di(l:List Tv)(k:Nat):(fQ (l.take k)).length≤(fQ l).length:=by
 have h:fQ l=fQ (l.take k)++fQ (l.drop k):=(by rw[←kF,List.take_append_drop]);rw[h,Yf];omega
theorem TP(c:Cm)(hi:CmI c)(hf:lT c):(fQ (iK c)).length≤20000:=by
 obtain⟨f1,f2,f3,f4,f5,f6⟩:=hf;have t1:(dW (jU c.par)).length≤43:=(by have :=jE c.par (by rw[hi.par];decide);rw[hi.par]at this;omega);have t2:(dW (jU c.cnf)).length≤43:=(by have :=jE c.cnf (by rw[hi.cnf];decide);rw[hi.cnf]at this;omega);have n1:=iT hi.f;have n2:=iT hi.e;have n3:=iT hi.au;have n4:=iT hi.r;have n5:=iT hi.g
 have k1:(dW (eU (c.chs.map chT))).length≤11+66*c.chs.length:=by
  refine Yc (fD (by rw[Yk];omega)) (Nat.add_le_add_left (iW fun a ha=>?_) _);have w:=hi.chs a ha;refine Yc (fD (by simp[chN])) ?_
  have :=oM (chN a) (fun z hz=>by
   unfold chN at hz;simp only[List.mem_cons,List.not_mem_nil,or_false]at hz;rcases hz with rfl | rfl | rfl | rfl | rfl
   · exact w.k
   · exact w.d
   · exact w.p
   · exact w.v
   · exact w.c)
  have h5:(chN a).length=5:=rfl;rw[h5]at this;omega
 have k2:(dW (eU (c.pth.map dL))).length≤11+11*c.pth.length:=Yc (fD (by rw[Yk];omega)) (Nat.add_le_add_left (iW fun a ha=>iT (hi.pth a ha)) _)
 have k3:(dW (eU (c.bxs.map bxT))).length≤11+255*c.bxs.length:=by
  refine Yc (fD (by rw[Yk];omega)) (Nat.add_le_add_left (iW fun a ha=>?_) _);have w:=hi.bxs a ha;have h2:=f5 a ha;refine Yc (fD (by simp)) ?_;have e1:=iT w.n;have e2:=iT w.l;have e3:=iT w.u;have e4:=jE a.b (by omega);simp only[fQ,Yf,Xc];omega
 have k4:(dW (eU (c.wls.map wlT))).length≤11+255*c.wls.length:=by
  refine Yc (fD (by rw[Yk];omega)) (Nat.add_le_add_left (iW fun a ha=>?_) _);have w:=hi.wls a ha;have h2:=f6 a ha;refine Yc (fD (by simp)) ?_;have e1:=iT w.d;have e3:=iT w.u;have e4:=jE a.b (by omega);simp only[fQ,Yf,Xc];omega
 simp only[iK,fQ,Yf,Xc];omega
theorem vI(c:Cm)(hi:CmI c)(hf:lT c)(k:Nat):(dW (eU ((iK c).take k))).length≤20011:=by
 have h1:=fD (l:=(iK c).take k) (by have h:=List.length_take_le k (iK c);have h2:(iK c).length=11:=rfl;have :=List.length_take_le' k (iK c);omega);have h2:=Di (iK c) k;have h3:=TP c hi hf;omega
end Go.Proofs.YtfddbnmfllgifaaGreatDoor
