/- Part of TopMembers. -/
import Derived.Test.YtfddbnmfllgifaaGreatDoorA18
import Derived.Lib.BufferRead
set_option linter.unusedVariables false
set_option linter.unusedSimpArgs false
set_option maxHeartbeats 64000000
namespace Go.Proofs.YtfddbnmfllgifaaGreatDoor
open Go.RowKit Cod
theorem run_text{w:World}{v:Value}{l:List UInt8}(h:BytesAt w v l):(convert 130 9 v).run Tryz.prog w=.ok (.string ⟨l.toArray⟩) w:=by
 rcases h with⟨⟨a,c,rfl,hc⟩,rfl⟩ | ⟨b,off,cap,rfl,e2,e3,e4,e5,e6⟩
 · cases a with
   | none=>exact Lib.run_convert_nil_bytes w 130 9 5 c Tryz.underlying130 Tryz.underlying5 Tryz.underlying9
   | some a=>exact run_convert_bytes_back w 130 9 5 a c [] Tryz.underlying130 Tryz.underlying5 Tryz.underlying9 (fun j hj=>absurd hj (by simp))
 · refine run_convert_bytes_back w 130 9 5 ⟨b,off,none⟩ cap l Tryz.underlying130 Tryz.underlying5 Tryz.underlying9 (fun j hj=>?_);rw[Addr.add_mid,e6 j hj];simp[Yd,Yh hj]
theorem aG.new{rb B:Nat}{w w1 w':World}(h:aG rb w w1)(hB:w.heap.size≤B)(k:aG B w1 w'):aG rb w w':=
 ⟨k.os.trans h.os,k.tape.trans h.tape,k.output.trans h.output,Yc h.size k.size,fun i hi hn=>(k.block i (Yg hi h.size) (by omega)).trans (h.block i hi hn)⟩
theorem QH{w0 w w':World}{rb:Nat}{sl v':Value}(h:aG rb w0 w)(s:ay w sl w' v')(hn:∀k,sl.ownBlock=some k→w0.heap.size≤k):aG rb w0 w':=
 ⟨s.1.os.trans h.os,s.1.tape.trans h.tape,s.1.output.trans h.output,Yc h.size s.1.size,fun k hk ae=>(s.block (Yg hk h.size) (fun e=>by have :=hn k e;omega)).trans (h.block k hk ae)⟩
theorem gB.leaf(S:Nat→Prop)(w:World){k n:Int}{s:ByteArray}(hk:bQ k)(hn:bQ n)(hs:(s.size:Int)≤140737488351232):gB S w (.agg (ah 4 (bu k n s (.slice none 0 0)))) (.mk k n s []):=
 .mk k n s (.slice none 0 0) [] (fun _ _=>.int .i64 0) hk hn hs (.inl ⟨⟨none,0,rfl,fun _=>rfl⟩,rfl⟩) (fun i hi=>absurd hi (by simp))
theorem V_set{w:World}{B:Nat}{T:TypeId}{f g:Nat→Value}(h:ag w B T 4 f)(j:Nat)(u:Value)(he:∀i,i < 4→(if i=j then u else f i)=g i):ag (w.setCell ⟨B,j,none⟩ u) B T 4 g:=(h.set j u).congr he
theorem mO(k n:Int)(s:ByteArray)(x:Value)(hx:x.oneCell'=true:=by rfl):∀j,j < 4→(bu k n s x j).oneCell'=true:=by
 intro j hj
 match j,hj with
 | 0,_=>rfl
 | 1,_=>rfl
 | 2,_=>rfl
 | 3,_=>exact hx
structure Ak where
 f:Int
 d:Int
 s:Int
 u:Int
 ch:List UInt8
 r:Int
 g:Int
structure Ak.wf(a:Ak):Prop where
 f:bQ a.f
 d:bQ a.d
 s:bQ a.s
 u:bQ a.u
 ch:a.ch.length=32
 r:bQ a.r
 g:bQ a.g
def z32:List UInt8:=List.replicate 32 0
def Ak.at (a:Ak)(i:Nat):Int:=match i with | 0=>a.f | 1=>a.d | 2=>a.s | 3=>a.u | 36=>a.r | _=>a.g
def dL(n:Int):Tv:=.mk 1 n ByteArray.empty []
def jU(l:List UInt8):Tv:=.mk 2 0 ⟨l.toArray⟩ []
def eU(l:List Tv):Tv:=.mk 3 0 ByteArray.empty l
theorem kT(n:Int):cu (dL n)=true:=by simp[dL,cu]
theorem pU(l:List UInt8):cu (jU l)=true:=by simp[jU,cu]
theorem oM(zs:List Int)(h:∀z∈zs,bQ z):(fQ (zs.map dL)).length≤11*zs.length:=by
 induction zs with
 | nil=>simp[fQ]
 | cons z zs ih=>
   have h1:=h z (List.mem_cons_self ..);have h2:=uw (Qu h1.1 h1.2);have h3:=ih fun y hy=>h y (List.mem_cons_of_mem _ hy);rw[Yw,nM,Yf];have h4:(dW (dL z)).length=(iV (zig z)).length+1:=(by simp[dL,dW]);rw[Yr];omega
theorem Vm(l:List Tv):dW (eU l)=3::(iV l.length++fQ l):=by simp[eU,dW]
theorem jE(l:List UInt8)(h:l.length≤1000000):(dW (jU l)).length≤11+l.length:=by
 have :(dW (jU l)).length=(iV l.length).length+l.length+1:=(by simp[jU,dW,ByteArray.size]);have h2:=uw (u:=l.length) (by omega);omega
def nD(w:World)(v:Value)(zs:List Int):Prop:=aN 1 w v zs.length (fun i _=>.int .i64 (zs.getD i 0))
theorem EU(w:World)(T:TypeId)(zs:List Int)(n:Nat)(hn:zs.length=n)(h0:0 < n)(h1:n≤1000):nD (w.alloc (.cells (ah n fun i=>.int .i64 (zs.getD i 0)) T)) (.slice (some ⟨w.heap.size,0,none⟩) n n) zs:=by
 have h:=ag.new w T n (fun i=>.int .i64 (zs.getD i 0));refine .inr ⟨w.heap.size,0,n,by rw[hn],by omega,by omega,⟨by omega,by omega⟩,h.lt,fun i hi j hj=>?_⟩;obtain rfl:j=0:=(by omega);rw[show 0+1*i+0=i by omega];exact h.cell (by omega)
structure eP(w0:World)(bv:Nat)(sl:Value)(ts:List Tv)(wx:World):Prop where
 own:dN wx w0.heap.size sl ts
 row:ag wx bv 107 4 (bu 3 0 ⟨#[]⟩ sl)
 only :aG bv w0 wx
 lt:bv < w0.heap.size
section
variable {w0 wx:World}{bv:Nat}{sl:Value}{ts:List Tv}
theorem eP.start(w:World):eP (w.alloc (.cells (ah 4 (bu 3 0 ⟨#[]⟩ (.slice none 0 0))) 107)) w.heap.size (.slice none 0 0) [] (w.alloc (.cells (ah 4 (bu 3 0 ⟨#[]⟩ (.slice none 0 0))) 107)):=
 ⟨dN.nil _ _,ag.new w _ 4 _,aG.refl _ _,by rw[Xi];omega⟩
theorem eP.later{wy:World}(h:eP w0 bv sl ts wx)(b:Below wx.heap.size wx wy):eP w0 bv sl ts wy:=
 ⟨h.own.keep ⟨b.os,b.tape,b.output,b.size,fun k hk _=>b.block k hk⟩ (fun k _ hk=>b.block k hk),h.row.below b,h.only.trans (aG.of_below b),h.lt⟩
theorem eP.alloc(h:eP w0 bv sl ts wx)(o:Obj):eP w0 bv sl ts (wx.alloc o):=h.later ((Yb _ _).alloc (Ya _) o)
theorem eP.cell(h:eP w0 bv sl ts wx):wx.cell? ⟨bv,3,none⟩=some sl:=h.row.cell (i:=3) (by decide)
theorem eP.frozen(h:eP w0 bv sl ts wx):wx.frozen? ⟨bv,3,none⟩=false:=h.row.frozen 3
theorem eP.size(h:eP w0 bv sl ts wx):w0.heap.size≤wx.heap.size:=h.only.size
theorem eP.push{w9:World}{v9:Value}{t:Tv}(h:eP w0 bv sl ts wx)(hO:dN w9 w0.heap.size v9 (ts++[t]))(s:ay wx sl w9 v9):
 eP w0 bv v9 (ts++[t]) (w9.setCell ⟨bv,3,none⟩ v9):=by
 have hl:∀k,sl.ownBlock=some k→w0.heap.size≤k:=fun k e=>(h.own.lt k e).1;have o:=(aG.refl bv w9).setCell (p:=⟨bv,3,none⟩) (.inl rfl) v9;have hr:ag w9 bv 107 4 (bu 3 0 ⟨#[]⟩ sl):=s.row h.row (fun e=>by have :=hl bv e;have :=h.lt;omega);exact⟨hO.only (rb:=bv) o.os o.tape o.output o.size o.block h.lt,V_set hr 3 v9 (by intro i hi;match i,hi with | 0,_=>rfl | 1,_=>rfl | 2,_=>rfl | 3,_=>rfl),(QH h.only s hl).trans o,h.lt⟩
theorem eP.value(h:eP w0 bv sl ts wx)(hn:ts.length≤1000000):dF wx (.agg #[.int .i64 3,.int .i64 0,.string ⟨#[]⟩,sl]) (eU ts):=by
 obtain⟨c,h1,h2⟩:=h.own.read (S:=fun b=>True) (by omega) (fun _ _=>trivial);exact .mk 3 0 ByteArray.empty sl ts c ⟨by decide,by decide⟩ ⟨by decide,by decide⟩ (by decide) h1.at' (fun i hi=>(h2 i hi).at')
theorem eP.slice(h:eP w0 bv sl ts wx):∃(a:Option Addr) (n c:Nat),sl=.slice a n c:=by obtain⟨a,c,e⟩:=h.own.slice;exact⟨a,_,c,e⟩
theorem eP.mid{w9:World}{v9:Value}(h:eP w0 bv sl ts wx)(s:ay wx sl w9 v9):w9.cell? ⟨bv,3,none⟩=some sl∧w9.frozen? ⟨bv,3,none⟩=false:=by
 have hr:ag w9 bv 107 4 (bu 3 0 ⟨#[]⟩ sl):=s.row h.row (fun e=>by have :=(h.own.lt bv e).1;have :=h.lt;omega);exact⟨hr.cell (i:=3) (by decide),hr.frozen 3⟩
theorem dN.slice3{w:World}{base:Nat}{v:Value}{ts:List Tv}(h:dN w base v ts):∃(a:Option Addr) (n c:Nat),v=.slice a n c:=by obtain⟨a,c,e⟩:=h.slice;exact⟨a,_,c,e⟩
theorem eP.row'(h:eP w0 bv sl ts wx){B n:Nat}{T:TypeId}{g:Nat→Value}(r:ag w0 B T n g)(ae:B≠bv):ag wx B T n g:=h.only.row ae r
end
theorem RP(S:Nat→Prop)(w:World){n:Int}(hn:bQ n):gB S w (.agg (ah 4 (bu 1 n ⟨#[]⟩ (.slice none 0 0)))) (dL n):=gB.leaf S w ⟨by decide,by decide⟩ hn (by decide)
theorem yL{w:World}{B n off:Nat}{T:TypeId}{g:Nat→Value}{l:List UInt8}(h:ag w B T n g)(hl:off+l.length≤n)(h0:0 < l.length)(hn:n≤1000)(hg:∀j,j < l.length→g (off+j)=vB (l.getD j 0)):BytesAt w (.slice (some ⟨B,off,none⟩) l.length l.length) l:=
 .inr ⟨B,off,l.length,rfl,Ya _,h0,⟨by omega,by omega⟩,h.lt,fun j hj=>by rw[h.cell (by omega),hg j hj]⟩
theorem sQ(S:Nat→Prop)(w:World){l:List UInt8}(hl:l.length≤1000000):gB S w (.agg (ah 4 (bu 2 0 ⟨l.toArray⟩ (.slice none 0 0)))) (jU l):=
 gB.leaf S w ⟨by decide,by decide⟩ ⟨by decide,by decide⟩ (by simp[ByteArray.size];omega)
theorem wpList_build{P:Program}{w:World}{ops:Array Oper}{rest:List Oper}{o:Oper}{a:Act}{Q:Exit→Act→World→Prop}(af:o.guard=none)(t:TypeId)(parts:Array (Nat×Operand))(ho:o.op=.build t parts)(vs:Array (Nat×Value))(hv:(parts.map fun(i,x)=>(i,a.eval x))=vs)(v:Value)
 (ae:(Instr.build t vs).run P w=.ok v w) (h:wpList P ops Q rest (a.put o.dst v) w):wpList P ops Q (o::rest) a w:=by
 refine vS af v ?_ h;unfold execOp;subst hv;simp only[ho,Sem.run_bind,Sem.run_pure,ae,Result.andThen_ok]
end Go.Proofs.YtfddbnmfllgifaaGreatDoor
