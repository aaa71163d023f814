/- Part of TopMembers. -/
import Derived.Test.YtfddbnmfllgifaaGreatDoorA3
import Derived.Lib.AppendZeros
import Derived.Laws.AppendOwnNone
import Derived.Deep.MidRow
import Derived.Deep.Light
import Derived.Deep.CutBlock
set_option linter.unusedVariables false
set_option linter.unusedSimpArgs false
set_option maxHeartbeats 64000000
set_option maxRecDepth 100000
namespace Go.Proofs.YtfddbnmfllgifaaGreatDoor
open Go.RowKit
theorem nK:(Tryz.prog.info? 5).map (fun i=>(i.zero,i.size,i.bytes))=some (some (.int .u8 0),1,1):=by kernel_rfl
def dw(w:World)(base:Nat)(v:Value)(l:List UInt8):Prop:=w.ownsRow base 5 1 v l.length (l.map vB)
theorem dw.kG{w:World}{base:Nat}{v:Value}{l:List UInt8}(h:dw w base v l)(hl:(l.length:Int)≤140737488351232):BytesAt w v l:=by
 obtain⟨h1,h2⟩:=h;rcases h2 with⟨rfl,h3⟩ | ⟨g,cap,cur,rfl,hb,hg,hle,hm,hs,ht⟩
 · rw[List.length_eq_zero_iff.1 h3];exact .inl ⟨⟨none,0,rfl,fun _=>rfl⟩,rfl⟩
 · by_cases h0:l.length=0
   · exact .inl ⟨⟨_,cap,by rw[h0],fun h=>by cases h⟩,List.length_eq_zero_iff.1 h0⟩
   · unfold maxLen at hm;refine .inr ⟨g,0,cap,rfl,hle,by omega,⟨hl,by omega⟩,(Yi.1 hg).1,fun j hj=>?_⟩;have h:=World.ownsRow.cellAt (w:=w) (base:=base) (e:=5) (size:=1) (g:=g) (cap:=cap) (n:=l.length) (xs:=l.map vB) ⟨h1,.inr ⟨g,cap,cur,rfl,hb,hg,hle,by unfold maxLen;omega,hs,ht⟩⟩ j (by omega);rw[Yl,h];simp[Yd,Yh hj]
theorem dw.nil(w:World)(base:Nat):dw w base (.slice none 0 0) []:=World.ownsRow_nil _ _ _ _
theorem dw.below{w w':World}{base:Nat}{v:Value}{l:List UInt8}(h:dw w base v l)(hb:Below w.heap.size w w'):dw w' base v l:=
 World.ownsRow.kept h (row:=none) ⟨hb.os,hb.tape,hb.output,hb.size,fun k hk _=>hb.block k hk⟩ (by
  cases hv:v.ownBlock with
  | none=>exact .inl rfl
  | some k=>exact .inr (by simp))
theorem dw.slice{w:World}{base:Nat}{v:Value}{l:List UInt8}(h:dw w base v l):∃(a:Option Addr) (c:Nat),v=.slice a l.length c:=by
 obtain⟨_,h2⟩:=h;rcases h2 with⟨rfl,h3⟩ | ⟨g,cap,cur,rfl,_⟩
 · exact⟨none,0,by rw[h3]⟩
 · exact⟨_,_,rfl⟩
theorem iF{w:World}{ops:Array Oper}{rest:List Oper}{o:Oper}{a:Act}{Q:Exit→Act→World→Prop}(af:o.guard=none)(s x:Operand)
 (ho:o.op=.call {callee:=.builtin .append,args:= #[s,x],argTypes:= #[130,130]})
 (base:Nat) (v vx:Value) (l lx:List UInt8) (hs:a.eval s=v) (hx:a.eval x=vx) (ae:dw w base v l) (ak:BytesAt w vx lx) (hlen:l.length+lx.length≤140737488351232) (hbase:base≤w.heap.size)
 (h:∀v' w',Hid (dw w' base v' (l++lx))→Hid (Below base w w')→Hid (w.grownBy w' v.ownBlock)→wpList Tryz.prog ops Q rest (a.put o.dst v') w'):wpList Tryz.prog ops Q (o::rest) a w:=by
 obtain⟨i0,hi,ah,ai,aj⟩:=info_parts nK
 have fin:∀v' w',w'.ownsRow base 5 1 v' (l.length+lx.length) (l.map vB++lx.map vB)→w.grownBy w' v.ownBlock→wpList Tryz.prog ops Q rest (a.put o.dst v') w':=by
  intro v' w' h1 hg;refine h v' w' ?_ ((Yb base w).grown hg hbase (fun k hk=>(World.ownsRow.lt ae k hk).1)) hg;unfold Hid dw;rw[Yf,Yn];exact h1
 rcases ak with⟨⟨ad,c,rfl,hc⟩,rfl⟩ | ⟨b,off,cap,rfl,hle,hpos,hcap,hb,hcell⟩
 · cases ad with
   | none=>
     obtain rfl:=hc rfl;refine wpList_append_own_none af s x 130 ho base 5 i0 1 Tryz.underlying130 hi v l.length (l.map vB) hs ae hx ?_;exact fin v w (by have h:=ae;unfold dw at h;simpa using h) ⟨rfl,rfl,rfl,Ya _,fun _ _ _=>rfl⟩
   | some ad=>
     refine wpList_append_own w af s x 130 ho base 5 i0 (.int .u8 0) 1 1 Tryz.underlying130 hi ah ai aj rfl (by decide) v l.length (l.map vB) hs ae ad 0 c [] hx rfl (fun j u hj=>by cases hj) (fun u hu=>by cases hu) (by unfold maxLen;omega) (by omega) hbase ?_;intro v' w' h1 hg _;exact fin v' w' (by simpa using h1) hg
 · refine wpList_append_own w af s x 130 ho base 5 i0 (.int .u8 0) 1 1 Tryz.underlying130 hi ah ai aj rfl (by decide) v l.length (l.map vB) hs ae ⟨b,off,none⟩ lx.length cap (lx.map vB) hx (by simp) (fun j u hj=>?_) (fun u hu=>?_) (by unfold maxLen;omega) (by omega) hbase ?_
   · obtain⟨ag,he⟩:=Ys.1 hj;rw[Yk]at ag;rw[Addr.add_mid,hcell j ag,←he];simp[Yd,Yh ag]
   · obtain⟨y,_,rfl⟩:=Yo.1 hu;rfl
   · intro v' w' h1 hg _;exact fin v' w' h1 hg
theorem Nu(w:World):
 Calls Tryz.prog 169 #[.slice none 0 0,.int .i64 0] w fun e w'=>e=.returned (.slice none 0 0)∧w=w':=by
 go_in;go_wp2;go_ret;exact⟨rfl,rfl⟩
theorem Ro(n:Nat)(w:World)(h0:0 < n)(hn:n≤140737488351232):
 Calls Tryz.prog 169 #[.slice none 0 0,.int .i64 (n:Int)] w fun e w'=>(∃v,e=.returned v∧dw w' w.heap.size v [])∧Below w.heap.size w w':=by
 obtain⟨i0,hi,ag,ah,ai⟩:=info_parts nK;have z1:(1:Int)≤(n:Int):=(by omega);have z2:(n:Int)≤140737488351232:=(by omega);have d0:decide ((n:Int) < 0)=false:=zT (by omega);have d1:decide ((0:Int) < (n:Int))=true:=zt (by omega);have hg:=fun ty=>Lib.run_append_nil_zeros (P:=Tryz.prog) w 130 3 ty 5 i0 (.int .u8 0) .i64 .i64 Tryz.underlying130 Tryz.underlying3 hi ag n h0 (by rw[ah];decide) (by omega) (by rw[ai];omega)
 have hO:Hid (dw (w.drew.alloc (.cells (Builtin.zeroCells (Value.cells (.int .u8 0)) n++Builtin.zeroCells (Value.cells (.int .u8 0)) (grownCap w n 0 5 - n)) 5)) w.heap.size (.slice (some ⟨w.heap.size,0,none⟩) 0 (grownCap w n 0 5)) []):=by
  have aj:=grownCap_ge w n 0 5;refine zh (World.ownsRow_made w.drew _ _ (Ya _) (grownCap_le_maxLen w n 0 _ (by unfold maxLen;omega)) ?_);rw[Array.size_append,size_zeroCells,size_zeroCells];simp only[Value.cells,List.size_toArray,Yr,Xc];omega
 have HG:=zh hg;have af:(0:Int)≤(grownCap w n 0 5:Int):=Ye _;obtain⟨cap,hc⟩:=zg (grownCap w n 0 5);rw[hc]at HG hO af;obtain⟨cur,ae⟩:=zg (Builtin.zeroCells (Value.cells (.int .u8 0)) n++Builtin.zeroCells (Value.cells (.int .u8 0)) (cap - n));rw[ae]at HG hO;have HB:Hid (Below w.heap.size w (w.drew.alloc (.cells cur 5))):=zh ((Yb _ w).drew.alloc (Ya _) _);clear hg hc ae h0 hn hi ag ah ai;go_in;go_wp2_with(at_builtin;refine Lib.wpList_append_run _ rfl (.tmp 20) (.tmp 21) 130 3 rfl _ _ rfl rfl _ _ (HG.o _) ?_);go_ret;exact⟨⟨_,rfl,hO⟩,HB⟩
def jQ(ls:List (List UInt8))(k:Nat):Nat:=(ls.take k).flatten.length
theorem pX(ls:List (List UInt8)){k:Nat}(h:k < ls.length):(ls.take (k+1)).flatten=(ls.take k).flatten++ls.getD k []:=by
 rw[List.take_succ_eq_append_getElem h,List.flatten_append,Yd,Yh h];simp
theorem sV(ls:List (List UInt8)){k:Nat}(h:k < ls.length):jQ ls (k+1)=jQ ls k+(ls.getD k []).length:=by
 unfold jQ;rw[pX ls h,Yf]
theorem qU(ls:List (List UInt8))(k:Nat):jQ ls k≤ls.flatten.length:=by
 unfold jQ;have h:ls.flatten=(ls.take k).flatten++(ls.drop k).flatten:=(by rw[←List.flatten_append,List.take_append_drop]);rw[h,Yf];omega
theorem Ih(ls:List (List UInt8))(vs:Nat→Value)(bx cp:Nat)(T:TypeId)(w:World)(ae:ag w bx T ls.length vs)(hb:∀i,i < ls.length→BytesAt w (vs i) (ls.getD i []))(hn:ls.length≤100)(ah:ls.flatten.length≤140737488351232):
 Calls Tryz.prog 112 #[.slice (some ⟨bx,0,none⟩) ls.length cp] w fun e w'=>(∃v,e=.returned v∧dw w' w.heap.size v ls.flatten)∧Below w.heap.size w w':=by
 obtain⟨n,ay⟩:=zg ls.length;have au:=zh ay;have ai:=zh ae;have Hb:=zh hb;have af:=zh ah;have aQ:=ae.lt;rw[ay]at hn ⊢;clear ay ae hb ah;go_in;go_wp2_with fail;go_loopg [3,5,11] n (fun g s3 s5 aH wx=>w=wx∧∃k:Nat,k+g=n∧aH=.int .i64 (k:Int)∧s3=.int .i64 (jQ ls k:Int));case atStart=>exact⟨rfl,0,by omega,rfl,rfl⟩
 case round=>
  obtain⟨rfl,k,hk,rfl,rfl⟩:=hrel;have aC:=qU ls k;by_cases aF:k < n
  · have d0:decide ((k:Int) < (n:Int))=true:=zt (by omega);have z1:=Ye k;have z2:(k:Int) < (n:Int):=(by omega);have z3:((k:Int)).toNat=k:=Int.toNat_natCast k;have ax:k < ls.length:=(by rw[au.o];exact aF);have ck:=ai.cell ax;have az:=sV ls ax;have aA:=qU ls (k+1);have aB:=af.o;obtain⟨va,vc,hv⟩:=(Hb.o k ax).slice;rw[hv]at ck;obtain⟨a,ha⟩:=zg (jQ ls k);obtain⟨c,hc⟩:=zg ((ls.getD k []).length);obtain⟨s,hs⟩:=zg (jQ ls (k+1));rw[ha,hc,hs]at az;rw[hc]at ck;rw[ha];have aI:=zh az;have Hs:=zh hs;have y1:=Ye a;have y2:=Ye c;have y3:(a:Int)+(c:Int)≤140737488351232:=(by omega);have d1:decide ((a:Int)+(c:Int) < 0)=false:=zT (by omega);clear aC ax az aA aB hv ha hc hs;go_wp2_with fail;go_roundg(gk - 1);case measure=>omega
    case rel=>
     go_light;exact⟨rfl,k+1,by omega,by go_num,by rw[Hs.o,aI.o];go_num⟩
  · have d0:decide ((k:Int) < (n:Int))=false:=zT (by omega);obtain rfl:k=n:=(by omega);have aj:jQ ls k=ls.flatten.length:=(by unfold jQ;rw[Yq (by rw[au.o];exact Ya _)]);obtain⟨N,hN⟩:=zg ls.flatten.length;rw[aj,hN]
    have hg:∀W:World,Calls Tryz.prog 169 #[.slice none 0 0,.int .i64 (N:Int)] W fun e w'=>(∃v,e=.returned v∧dw w' W.heap.size v [])∧Below W.heap.size W w':=by
     intro W;by_cases h0:N=0
     · subst h0;refine(Nu W).mono ?_;rintro e w' ⟨rfl,rfl⟩;exact⟨⟨_,rfl,dw.nil _ _⟩,Yb _ _⟩
     · exact Ro _ W (by omega) (by rw[←hN];exact af.o)
    have Hg:=zh hg;clear aj hN hg aC hk aF;go_wp2_with fail;refine(Hg.o _).mono ?_;rintro e w1 ⟨⟨v,rfl,hO⟩,hB⟩;have HO:=zh hO;have HB:=zh hB;clear hO hB d0;go_wp2_with fail;go_loopg [6,8,27] k (fun g s6 s8 aJ wx=>∃(j:Nat) (v:Value),j+g=k∧aJ=.int .i64 (j:Int)∧s6=v∧Hid (dw wx w.heap.size v (ls.take j).flatten)∧Hid (Below w.heap.size w wx));case atStart=>exact⟨0,v,by omega,rfl,rfl,HO,HB⟩
    case round=>
     clear HO HB;obtain⟨j,v,hj,rfl,e6,hO,hB⟩:=hrel;obtain rfl:v=_:=e6.symm;by_cases aK:j < k
     · have d0:decide ((j:Int) < (k:Int))=true:=zt (by omega);have z1:=Ye j;have z2:(j:Int) < (k:Int):=(by omega);have z3:((j:Int)).toNat=j:=Int.toNat_natCast j;have ak:j < ls.length:=(by rw[au.o];exact aK);have ck:=(ai.below hB.o).cell ak;have aG:=zh ((Hb.o j ak).below hB.o);have aN:=zh (pX ls ak)
       have aO:=zh (show((ls.take j).flatten).length+(ls.getD j []).length≤140737488351232 from by
        have :=qU ls (j+1);rw[sV ls ak]at this;unfold jQ at this;have :=af.o;omega)
       have aP:=zh hB.size;obtain⟨x,hx⟩:=zg (vs j);rw[hx]at ck aG;clear ak hx;go_wp2_with(refine iF (o:=⟨some 33,_,_,_,_,_⟩) rfl (.tmp 31) (.tmp 32) rfl w.heap.size v x _ _ rfl rfl hO.o aG.o aO.o aP.o ?_;intro v2 w2 O2 B2 _);go_roundg(gk - 1);case measure=>omega
       case rel=>
        go_light;exact⟨j+1,v2,by omega,by go_num,rfl,by rw[aN.o];exact O2,zh (hB.trans B2.o)⟩
     · have d0:decide ((j:Int) < (k:Int))=false:=zT (by omega);obtain rfl:j=k:=(by omega);go_wp2_with fail;go_ret;go_light;refine⟨⟨_,rfl,?_⟩,hB.o⟩;have h:=hO.o;rw[Yq (by rw[au.o];exact Ya _)]at h;exact h
end Go.Proofs.YtfddbnmfllgifaaGreatDoor
