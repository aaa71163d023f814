/- Part of TopMembers. -/
import Derived.WalkKit
import Derived.Lib.Hide
import Derived.Test.YtfddbnmfllgifaaGreatDoorA27
set_option linter.unusedVariables false
set_option linter.unusedSimpArgs false
set_option maxHeartbeats 64000000
namespace Go.RowKit
theorem Hid.o{p:Prop}(h:Hid p):p:=h
end Go.RowKit
namespace Go.Proofs.YtfddbnmfllgifaaGreatDoor
open Go.RowKit
theorem zh{p:Prop}(h:p):Hid p:=h
theorem zD{a b c:World}(h:Hid (Below a.heap.size a b))(k:Below b.heap.size b c):Hid (Below a.heap.size a c):=Below.trans h (k.mono (Below.size h))
theorem zS{P:Program}{ops:Array Oper}{Q:Exit→Act→World→Prop}(s:Nat){b c d e f}{r:List Oper}{A:Act}{W:World}(h:Hid (wpList P ops Q (Oper.mk (some s) b c d e f::r) A W)):wpList P ops Q (Oper.mk (some s) b c d e f::r) A W:=h
theorem zN{P:Program}{ops:Array Oper}{Q:Exit→Act→World→Prop}{b c d e f}{r:List Oper}{A:Act}{W:World}(h:wpList P ops Q (Oper.mk none b c d e f::r) A W):wpList P ops Q (Oper.mk none b c d e f::r) A W:=h
theorem zn{P:Program}{ops:Array Oper}{Q:Exit→Act→World→Prop}{b c d e f}{r:List Oper}{A:Act}{W:World}(h:Hid (wpList P ops Q (Oper.mk none b c d e f::r) A W)):wpList P ops Q (Oper.mk none b c d e f::r) A W:=h
def zr(v:Value)(w:World)(e:Ending)(w':World):Prop:=e=.returned v∧Below w.heap.size w w'
theorem zw(n:Int)(h: -9223372036854775808≤n∧n≤9223372036854775807):IntKind.i64.wrap n=n:=by rw[IntKind.wrap_i64];omega
theorem zM(P:Program):∀(fn:Fn) (first cap:Array Value) (w:World),(Instr.makeFunc fn first cap).run P w=.ok (.func fn first cap) w:=fun _ _ _ _=>rfl
theorem zu:(∀(xs:List Value) (i:Nat) (a:Value),xs.toArray.setIfInBounds i a=(xs.set i a).toArray)∧(∀(x:Value) (xs:List Value) (n:Nat) (a:Value),(x::xs).set (n+1) a=x::xs.set n a)∧(∀(x:Value) (xs:List Value) (a:Value),(x::xs).set 0 a=a::xs):=⟨fun _ _ _=>List.setIfInBounds_toArray _ _ _,fun _ _ _ _=>rfl,fun _ _ _=>rfl⟩
abbrev Yb:=@Below.refl
abbrev Xi:=@World.size_alloc
end Go.Proofs.YtfddbnmfllgifaaGreatDoor
namespace Go.Proofs.YtfddbnmfllgifaaGreatDoor
namespace Sha
abbrev Wd:=BitVec 32
def rr(x:Wd)(k:Nat):Wd:=x >>> k||| x <<< (32 - k)
def s0(x:Wd):Wd:=rr x 7^^^rr x 18^^^x >>> 3
def s1(x:Wd):Wd:=rr x 17^^^rr x 19^^^x >>> 10
def S0(x:Wd):Wd:=rr x 2^^^rr x 13^^^rr x 22
def S1(x:Wd):Wd:=rr x 6^^^rr x 11^^^rr x 25
def ch(e f g:Wd):Wd:=(e&&& f)^^^(~~~e&&& g)
def maj(a b c:Wd):Wd:=(a&&& b)^^^(a&&& c)^^^(b&&& c)
theorem ch_is(e f g:Wd):g^^^(e&&& (f^^^g))=ch e f g:=by
 unfold ch;ext i hi;simp only[BitVec.getElem_xor,BitVec.getElem_and,BitVec.getElem_not];cases e[i]<;>cases f[i]<;>cases g[i]<;>rfl
theorem maj_is(a b c:Wd):(a&&& b||| c&&& (a||| b))=maj a b c:=by
 unfold maj;ext i hi;simp only[BitVec.getElem_xor,BitVec.getElem_and,BitVec.getElem_or];cases a[i]<;>cases b[i]<;>cases c[i]<;>rfl
def sched(b:Nat→Wd)(t:Nat):Wd:=
 if t < 16 then b t else sched b (t - 16)+s0 (sched b (t - 15))+sched b (t - 7)+s1 (sched b (t - 2))
termination_by t
decreasing_by all_goals omega
structure St where
 a:Wd
 b:Wd
 c:Wd
 d:Wd
 e:Wd
 f:Wd
 g:Wd
 h:Wd
def kk:List Nat:=[
 0x428a2f98,0x71374491,0xb5c0fbcf,0xe9b5dba5,0x3956c25b,0x59f111f1,0x923f82a4,0xab1c5ed5,
 0xd807aa98,0x12835b01,0x243185be,0x550c7dc3,0x72be5d74,0x80deb1fe,0x9bdc06a7,0xc19bf174,
 0xe49b69c1,0xefbe4786,0x0fc19dc6,0x240ca1cc,0x2de92c6f,0x4a7484aa,0x5cb0a9dc,0x76f988da,
 0x983e5152,0xa831c66d,0xb00327c8,0xbf597fc7,0xc6e00bf3,0xd5a79147,0x06ca6351,0x14292967,
 0x27b70a85,0x2e1b2138,0x4d2c6dfc,0x53380d13,0x650a7354,0x766a0abb,0x81c2c92e,0x92722c85,
 0xa2bfe8a1,0xa81a664b,0xc24b8b70,0xc76c51a3,0xd192e819,0xd6990624,0xf40e3585,0x106aa070,
 0x19a4c116,0x1e376c08,0x2748774c,0x34b0bcb5,0x391c0cb3,0x4ed8aa4a,0x5b9cca4f,0x682e6ff3,
 0x748f82ee,0x78a5636f,0x84c87814,0x8cc70208,0x90befffa,0xa4506ceb,0xbef9a3f7,0xc67178f2]
def K(t:Nat):Wd:=BitVec.ofNat 32 (kk.getD t 0)
def init:St:=⟨0x6a09e667,0xbb67ae85,0x3c6ef372,0xa54ff53a,0x510e527f,0x9b05688c,0x1f83d9ab,0x5be0cd19⟩
def rnd(k w:Wd)(s:St):St:=
 let p:=s.h+S1 s.e+ch s.e s.f s.g+k+w
 ⟨p+(S0 s.a+maj s.a s.b s.c),s.a,s.b,s.c,s.d+p,s.e,s.f,s.g⟩
def Jl(w:Nat→Wd)(s:St):Nat→St
 | 0=>s
 | t+1=>rnd (K t) (w t) (Jl w s t)
def plus(s v:St):St:=⟨s.a+v.a,s.b+v.b,s.c+v.c,s.d+v.d,s.e+v.e,s.f+v.f,s.g+v.g,s.h+v.h⟩
def comp(s:St)(b:Nat→Wd):St:=plus s (Jl (sched b) s 64)
def wI(a b c d:UInt8):Wd:=BitVec.ofNat 32 (((a.toNat*256+b.toNat)*256+c.toNat)*256+d.toNat)
def words(m:List UInt8)(o t:Nat):Wd:=wI (m.getD (o+4*t) 0) (m.getD (o+4*t+1) 0) (m.getD (o+4*t+2) 0) (m.getD (o+4*t+3) 0)
def blocks(m:List UInt8)(s:St):Nat→St
 | 0=>s
 | n+1=>comp (blocks m s n) (words m (64*n))
def be8(n:Nat):List UInt8:=[UInt8.ofNat (n / 2^56),UInt8.ofNat (n / 2^48),UInt8.ofNat (n / 2^40),UInt8.ofNat (n / 2^32),UInt8.ofNat (n / 2^24),UInt8.ofNat (n / 2^16),UInt8.ofNat (n / 2^8),UInt8.ofNat n]
def zeros(n:Nat):Nat:=(119 - n % 64) % 64
def pad(m:List UInt8):List UInt8:=m++0x80::(List.replicate (zeros m.length) 0++be8 (m.length*8 % 2^64))
def St.o(s:St)(i:Nat):Wd:=match i with
 | 0=>s.a | 1=>s.b | 2=>s.c | 3=>s.d | 4=>s.e | 5=>s.f | 6=>s.g | _=>s.h
def byteOf(w:Wd)(j:Nat):UInt8:=UInt8.ofNat (w.toNat / 2^(24 - 8*j))
def jV(s:St):List UInt8:=(List.range 32).map fun i=>byteOf (s.o (i / 4)) (i % 4)
def sum(m:List UInt8):List UInt8:=jV (blocks (pad m) init ((pad m).length / 64))
theorem BG(s:St):(jV s).length=32:=by simp[jV]
theorem uF(m:List UInt8):(sum m).length=32:=BG _
end Sha
end Go.Proofs.YtfddbnmfllgifaaGreatDoor
namespace Go.Proofs.YtfddbnmfllgifaaGreatDoor
namespace Sha
def eX(c:Nat→UInt8)(t:Nat):Wd:=wI (c (4*t)) (c (4*t+1)) (c (4*t+2)) (c (4*t+3))
theorem QJ(m:List UInt8)(o:Nat):words m o=eX (fun j=>m.getD (o+j) 0):=rfl
theorem Va(b:Nat→Wd){t:Nat}(h:t < 16):sched b t=b t:=by rw[sched,if_pos h]
theorem TT(b:Nat→Wd){t:Nat}(h:¬t < 16):sched b t=sched b (t - 16)+s0 (sched b (t - 15))+sched b (t - 7)+s1 (sched b (t - 2)):=by
 rw[sched,if_neg h]
def jk(m:Nat→UInt8)(s:St):Nat→St
 | 0=>s
 | n+1=>comp (jk m s n) (eX fun j=>m (64*n+j))
theorem yK(m:List UInt8)(s:St):∀n,blocks m s n=jk (fun j=>m.getD j 0) s n
 | 0=>rfl
 | n+1=>by rw[blocks,jk,yK m s n,QJ]
def ja(n:Nat):Nat:=if 55 < n % 64 then 128 else 64
theorem Jw(m:List UInt8):(pad m).length=m.length - m.length % 64+ja m.length:=by
 unfold pad be8 zeros ja;simp only[Yf,Yr,List.length_replicate,Xc];split<;>omega
theorem Rw(m:List UInt8){j:Nat}(h:j < m.length):(pad m).getD j 0=m.getD j 0:=by
 unfold pad;rw[Yd,Yd,Xd h]
def uG(n i:Nat):UInt8:=UInt8.ofNat (n*8 % 2^64 / 2^(8*i))
theorem Le(n:Nat){i:Nat}(h:i < 8):(be8 n)[i]? =some (UInt8.ofNat (n / 2^(8*(7 - i)))):=by
 match i,h with
 | 0,_=>rfl
 | 1,_=>rfl
 | 2,_=>rfl
 | 3,_=>rfl
 | 4,_=>rfl
 | 5,_=>rfl
 | 6,_=>rfl
 | 7,_=>simp[be8]
def uu(m:List UInt8)(j:Nat):UInt8:=
 if j < m.length % 64 then m.getD (m.length - m.length % 64+j) 0
 else if j=m.length % 64 then 0x80
 else if ja m.length≤j+8 then uG m.length (ja m.length - 1 - j)else 0
theorem XV(m:List UInt8){j:Nat}(h:j < ja m.length):(pad m).getD (m.length - m.length % 64+j) 0=uu m j:=by
 unfold uu;by_cases h1:j < m.length % 64
 · rw[if_pos h1,Rw m (by omega)]
 · rw[if_neg h1]
   have hz:(pad m).getD (m.length - m.length % 64+j) 0=(0x80::(List.replicate (zeros m.length) 0++be8 (m.length*8 % 2^64))).getD (j - m.length % 64) 0:=by
    unfold pad;rw[Yd,Yd,Xb (by omega)];congr 2;omega
   rw[hz];by_cases h2:j=m.length % 64
   · rw[if_pos h2,h2,Nat.sub_self];rfl
   · rw[if_neg h2];obtain⟨d,hd⟩:∃d,j - m.length % 64=d+1:=⟨j - m.length % 64 - 1,by omega⟩;rw[hd,List.getD_cons_succ,Yd];have ae:m.length % 64+1+zeros m.length+8=ja m.length:=(by unfold zeros ja;split<;>omega);by_cases h3:ja m.length≤j+8
     · rw[if_pos h3,Xb (by rw[List.length_replicate];omega),List.length_replicate,Le _ (by omega)];show UInt8.ofNat _=uG _ _;unfold uG;congr 4;omega
     · rw[if_neg h3,Xd (by rw[List.length_replicate];omega),List.getElem?_replicate,if_pos (by omega)];rfl
theorem sum_is(m:List UInt8):sum m=jV (jk (fun j=>(pad m).getD j 0) init (m.length / 64+ja m.length / 64)):=by
 unfold sum;rw[yK,Jw];congr 2;unfold ja;split<;>omega
end Sha
end Go.Proofs.YtfddbnmfllgifaaGreatDoor
