/-
  Many steps at once: what needs no word of ours is found by itself. Plain lemmas, no program in sight.
-/
import Derived.Test.YtjdmfohncgkdoaaGreatDoorHq4
import Derived.Shelf.Strings.Builder1
import Derived.Shelf.Strings.BuilderF
import Derived.Shelf.LaysM
import Derived.Shelf.Strconv.Itoa3
import Derived.Shelf.LaysC
import Derived.Shelf.Strconv.AtoiAll
import Derived.Shelf.Strconv.ErrVarAll
import Derived.Test.YtjdmfohncgkdoaaGreatDoorProg
import Derived.Lib.ItoaNum
import Derived.Lib.AtoiAll
import Derived.Test.YtjdmfohncgkdoaaGreatDoorHc
import Derived.WalkKit
import Derived.BigCall
import Derived.BigGuard
import Derived.Lib.Strings
import Derived.Lib.AtoiErrMem
import Derived.Laws.IdiomStrings
import Derived.Lib.SmallJoins
import Derived.Lib.Bytealg
import Derived.Test.YtjdmfohncgkdoaaGreatDoorChecked
import Derived.Shelf.Lays
import Derived.Shelf.Strings.BuilderK
import Derived.Lib.OthersKept
import Derived.Deep.WholeRow
import Derived.Laws.Tables
import Derived.Lib.ItoaLen
import Derived.Shelf.Small.Strs
import Derived.Lib.AppendStr
namespace Go.Proofs.YtjdmfohncgkdoaaGreatDoor
set_option linter.unusedSimpArgs false
set_option linter.unusedVariables false
set_option maxRecDepth 100000
open Go.RowKit
@[reducible] def Th (P:Program) (rd:Option Nat) (y:Code) (Q:Exit→Act→World→Prop):Exit→Act→World→Prop:=Exit.then (fun a w=>Code.wpR rd P y Q a w) Q
def c5p:List (Nat×TV)→Bool
 | []=>true
 | (_,.un _ _ _)::_=>false
 | (_,.v _)::r=>c5p r
structure Run (n:Nat) (G' G:Prop):Prop where h:G'→G
structure WSeq (C:Ctx) (P:Program) (ops:Array Oper) (l:List Oper) (s:HSt) (Q:Exit→Act→World→Prop):Prop where h:HSeq C P ops l s Q
structure WWp (C:Ctx) (P:Program) (c:Code) (s:HSt) (Q:Exit→Act→World→Prop):Prop where h:HWp C P c s Q
structure WQ (C:Ctx) (Q:Exit→Act→World→Prop) (e:Exit) (s:HSt):Prop where h:HQ C Q e s
structure WDr (P:Program) (n clk:Nat) (tm0:List (Nat×TV)) (hp0:List (Nat×HObj)) (L dn:List Oper) (ss:List HSpec) (rest:List Oper) (k:Nat) (tm:List (Nat×TV)) (hp:List (Nat×HObj)) (Fin:Prop):Prop where h:HDr P n clk tm0 hp0 L dn ss rest k tm hp Fin
theorem rg {n:Nat} {G' G G1:Prop} (h:G1→G) (k:Run n G' G1):Run (n+1) G' G:=⟨fun x=>h (k.h x)⟩
theorem rq_ {p q:Prop} (h:p→q:=by (intro h;first | rfl | cases h)):p→q:=h
theorem omg {p:Prop} (h:p:=by (first | exact Nat.le_of_ble_eq_true rfl | omega | (dsimp only;omega) | (simp only [hcs] at *;omega) | (simp <;> omega))):p:=h
theorem ckk {a b:Nat} (h:a=b:=by ((try simp only [Nat.add_assoc,Nat.reduceAdd]);exact rfl)):a=b:=h
section
variable {P:Program} {T:TypeId} {b:Bool} {s fo k n e:Nat} {z:List Value} {l:List (Nat×Nat)}
theorem iEl (h:ElI P T e s:=by infer_instance):elOf P T=some (e,s):=h.h
theorem iTy (h:TyI P T b s:=by infer_instance):tyOf P T=some (b,s):=h.h
theorem iFd (h:FdI P T k fo:=by infer_instance):fdOf P T k=some fo:=h.h
theorem iAl (h:AlI P T n s:=by infer_instance):arL P T=some (n,s):=h.h
theorem iSt (h:StI P T z l:=by infer_instance):stOf P T=some (z,l):=h.h
end
section
variable {ov:Nat→Option HV} {pl:List (Nat×Nat)} {sz i o s k:Nat} {x:Operand} {ps:List (Nat×Operand)} {hs:List (Nat×Nat×HV)} {h:HV} {l:List HV}
theorem po0:a4h ov pl sz [] []:=trivial
theorem po1 (h1:ovl ov x=some h) (h2:pl[i]?=some (o,s)) (h3:h.flat=true) (h4:h.wid=s) (h5:Nat.ble (o+s) sz=true) (r:a4h ov pl sz ps hs):a4h ov pl sz ((i,x)::ps) ((o,s,h)::hs):=⟨h1,h2,h3,h4,h5,r⟩
theorem poo (h:a4h ov pl sz ps hs:=by repeat (first | exact po0 | apply po1 rfl rfl rfl rfl rfl)):a4h ov pl sz ps hs:=h
theorem lo0:a5h ov sz k [] []:=trivial
theorem lo1 (h2:ovl ov x=some h) (h3:h.flat=true) (h4:h.wid=sz) (r:a5h ov sz (k+1) ps l):a5h ov sz k ((k,x)::ps) (h::l):=⟨rfl,h2,h3,h4,r⟩
theorem loo (h:a5h ov sz k ps l:=by repeat (first | exact lo0 | apply lo1 rfl rfl rfl)):a5h ov sz k ps l:=h
theorem oa0:a2I ov [] []:=trivial
theorem oa1 {xs:List Operand} (h1:ovl ov x=some h) (r:a2I ov xs l):a2I ov (x::xs) (h::l):=⟨h1,r⟩
theorem oaa {xs:List Operand} (h:a2I ov xs l:=by repeat (first | exact oa0 | apply oa1 rfl)):a2I ov xs l:=h
theorem lhh {z:Option Operand} {a d:Int} (h:z=none∧a=d∨∃ k y,z=some y∧ovl ov y=some (.imm (.int k a)):=by first | exact .inl ⟨rfl,rfl⟩ | exact .inr ⟨_,_,rfl,rfl⟩ | fail):z=none∧a=d∨∃ k y,z=some y∧ovl ov y=some (.imm (.int k a)):=h
end
section
variable {P:Program} {ov:Nat→Option HV} {g:Nat} {d:Option Tmp} {ty T:TypeId} {pos:String} {af:Array Edge} {gd:Option (Nat×Bool)} {x:Operand} {n s:Nat} {e:TypeId}
theorem b9m {l:List UInt8} (hE:P.underlying T=some .string) (h1:ovl ov x=some (a0p l)):HOp P ⟨d,.call ⟨.builtin .len,#[x],#[T]⟩,ty,pos,af,gd⟩ ov g [] (a0h (l.length:Int)) []:=b2i rfl hE h1
theorem c4I {f:Nat→Nat→HV} (h1:ovl ov x=some (.sl s n f)) (hE:elOf P T=some (e,s)):HOp P ⟨d,.call ⟨.builtin .len,#[x],#[T]⟩,ty,pos,af,gd⟩ ov g [] (a0h (n:Int)) []:=a9l rfl (a4w hE).1 h1
theorem c5i {id gg lo:Nat} (h1:ovl ov x=some (.os id gg lo n)) (hE:elOf P T=some (e,s)):HOp P ⟨d,.call ⟨.builtin .len,#[x],#[T]⟩,ty,pos,af,gd⟩ ov g [] (a0h (n:Int)) []:=b5J rfl (a4w hE).1 h1
theorem c1W {A:Option Addr} {c:Nat} (h1:ovl ov x=some (.imm (.slice A n c))) (hE:elOf P T=some (e,s)):HOp P ⟨d,.call ⟨.builtin .len,#[x],#[T]⟩,ty,pos,af,gd⟩ ov g [] (a0h (n:Int)) []:=b3b rfl (a4w hE).1 h1
end
section
variable {P:Program} {ov:Nat→Option HV} {g:Nat} {d:Option Tmp} {ty T yT:TypeId} {pos:String} {af:Array Edge} {gd:Option (Nat×Bool)} {x:Operand} {k k':IntKind} {lo hi a:Int}
theorem ik_ (h:IkI P T k:=by infer_instance):IkI P T k:=h
theorem c6o (h:WOk k lo hi:=by first | exact c2d | exact b8F | exact b3E | exact c2C | exact b3f | exact c2X | fail):WOk k lo hi:=h
theorem c5Q (hT:IkI P yT k') (w:WOk k' lo hi) (h1:ovl ov x=some (.imm (.int k a))) (hl:lo≤a) (hh:a≤hi) (hS:IkI P T k):HOp P ⟨d,.convert T yT x,ty,pos,af,gd⟩ ov g [] (.imm (.int k' a)) []:=b8v w hT.h (by rw [hS.h];rfl) h1 hl hh
theorem c5P (hT:IkI P yT k') (h1:ovl ov x=some (.imm (.int k a))) (hS:IkI P T k):HOp P ⟨d,.convert T yT x,ty,pos,af,gd⟩ ov g [] (.imm (.int k' (k'.wrap a))) []:=b4x hT.h (by rw [hS.h];rfl) h1
end
theorem hpA {P:Program} {o:Oper} {ov:Nat→Option HV} {g:Nat} {v:HV} (h:HOp P o ov g [] v []:=by first
 | (apply a1Y;exact rfl)
 | (apply a9q;exact rfl)
 | (apply a8k;(iterate 2 exact rfl))
 | (apply b8p;(iterate 2 exact rfl))
 | (apply c3r;(iterate 2 exact rfl))
 | (apply b3M;(iterate 2 exact rfl))
 | (apply c1O;(iterate 2 exact rfl))
 | (apply b3n;(iterate 2 exact rfl))
 | (apply a8A;(iterate 2 exact rfl))
 | (apply b4H;(iterate 3 exact rfl);(iterate 2 exact omg))
 | (apply b9Q;(iterate 3 exact rfl);(iterate 2 exact omg))
 | (apply c0s;(iterate 3 exact rfl);(iterate 2 exact omg))
 | (apply a6R;exact rfl)
 | (apply a4u;exact iEl;(iterate 2 exact rfl);(iterate 3 exact omg))
 | (apply a0o;exact iTy;exact rfl;exact omg;exact rq_)
 | (apply a2n;exact iFd;exact rfl;exact omg)
 | (apply a4Y;exact iFd;exact rfl)
 | (apply a8J;exact rfl)
 | (apply a8w;exact rfl)
 | (apply b9m;exact kr;exact rfl)
 | (apply c4I;exact rfl;exact iEl)
 | (apply c5i;exact rfl;exact iEl)
 | (apply c1W;exact rfl;exact iEl)
 | (apply b2K;exact kr;(iterate 2 exact rfl);(iterate 2 exact omg))
 | (apply a7f;exact kr;exact rfl;(iterate 2 exact lhh);(iterate 3 exact omg))
 | (apply a9v;exact iEl;exact rfl;(iterate 2 exact lhh);(iterate 3 exact omg))
 | (apply b7E;(iterate 2 exact rfl))
 | (apply b2k;(iterate 2 exact rfl))
 | (apply a5p;(iterate 2 exact rfl);exact omg)
 | (apply c2u;exact (fun w=>kr);(iterate 2 exact rfl))
 | (apply c2G;exact (fun w=>kr);(iterate 2 exact rfl))
 | (apply c2p;(iterate 2 exact rfl))
 | (apply c2z;(iterate 2 exact rfl))
 | (apply b0M;exact b8F;(iterate 3 exact rfl);(iterate 2 exact omg))
 | (apply b0M;exact b3f;(iterate 3 exact rfl);(iterate 2 exact omg))
 | (apply b0M;exact b3E;(iterate 3 exact rfl);(iterate 2 exact omg))
 | (apply b0p;exact b8F;(iterate 3 exact rfl);(iterate 2 exact omg))
 | (apply b0p;exact b3f;(iterate 3 exact rfl);(iterate 2 exact omg))
 | (apply b0p;exact b3E;(iterate 3 exact rfl);(iterate 2 exact omg))
 | (apply b9A;(iterate 2 exact rfl))
 | (apply c3p;(iterate 2 exact rfl))
 | (apply c2k;(iterate 2 exact rfl);exact omg)
 | (apply c2c;(iterate 2 exact rfl);exact omg)
 | (apply c5Q;exact ik_;exact c6o;exact rfl;(iterate 2 exact omg);exact ik_)
 | (apply c5P;exact ik_;exact rfl;exact ik_)
 | (apply b5k;exact iAl;(iterate 2 exact rfl);(iterate 2 exact omg))
 | (apply b5Y;exact iAl;(iterate 2 exact rfl);(iterate 3 exact omg))
 | (apply b7A;exact iSt;(iterate 2 exact rfl);exact poo)
 | (apply b2x;exact oaa)
 | (apply a9T;exact rfl)
 | (apply b2X;exact kr;(iterate 2 exact rfl))
 | (apply b3g;exact kr;(iterate 2 exact rfl))
 | (apply b2J;exact kr;(iterate 2 exact rfl))
 | (apply b3C;exact kr;(iterate 2 exact rfl))
 | (apply b2E;exact kr;(iterate 2 exact rfl))
 | (apply b3i;exact kr;(iterate 2 exact rfl))
 | (apply b8R;exact kr;exact rfl)
 | (apply a8U;exact kr;exact rfl)
 | (apply a9d;exact kr;exact rfl)
 | fail):HOp P o ov g [] v []:=h
section
variable {qq:Nat} {GG:Prop} {C:Ctx} {P:Program} {ops:Array Oper} {Q:Exit→Act→World→Prop} {n clk c':Nat} {tm:List (Nat×TV)} {hp:List (Nat×HObj)} {rest:List Oper} {v:HV} {d gi j:Nat} {op:Op} {ty T:TypeId} {pos:String} {af:Array Edge} {x y:Operand} {b c:Bool} {id gg i off s m sz fl lo:Nat} {oty:TypeId} {f:Nat→Nat→HV}
theorem cr_ {id:Nat} {l:List Oper} {s:HSt} (nd:C.rd=none∨l.all Oper.calm=true) (h:Run qq GG (WSeq C P l.toArray l s Q)):Run (qq+1) GG (WWp C P (.region id l.toArray false) s Q):=rg (fun h=>⟨b8T h.h nd⟩) h
theorem cu_ {tm':List (Nat×TV)} (hu:a7Y tm=true) (ht:a7t tm []=tm') (h:Run qq GG (WQ C Q .normal ⟨n,tm',hp,clk⟩)):Run (qq+1) GG (WSeq C P ops [] ⟨n,tm,hp,clk⟩ Q):=rg (fun h=>⟨b7d hu ht h.h⟩) h
theorem zm (hx:ovl (a0P (tget tm)) x=some v) (hlt:Nat.blt d n=true) (hk:a1b tm d=true) (h:Run qq GG (WSeq C P ops rest ⟨n,(d,.v v)::tm,hp,clk⟩ Q)):Run (qq+1) GG (WSeq C P ops (⟨some d,.move x,ty,pos,af,none⟩::rest) ⟨n,tm,hp,clk⟩ Q):=rg (fun h=>⟨stm hx hlt hk h.h⟩) h
theorem za (hx:ovl (a0P (tget tm)) x=some v) (hlt:Nat.blt d n=true) (hk:a1b tm d=true) (h:Run qq GG (WSeq C P ops rest ⟨n,(d,.v v)::tm,hp,clk⟩ Q)):Run (qq+1) GG (WSeq C P ops (⟨some d,.assign x,ty,pos,af,none⟩::rest) ⟨n,tm,hp,clk⟩ Q):=rg (fun h=>⟨sta hx hlt hk h.h⟩) h
theorem cs_ {x y:Code} {s:HSt} (h:Run qq GG (WWp C P x s (Th P C.rd y Q))):Run (qq+1) GG (WWp C P (.seq x y) s Q):=rg (fun h=>⟨fun a w hs=>wpIn_seq (h.h a w hs)⟩) h
theorem ct_ {rd:Option Nat} {y:Code} {s:HSt} (hr:rd=C.rd) (h:Run qq GG (WWp C P y s Q)):Run (qq+1) GG (WQ C (Th P rd y Q) .normal s):=rg (fun h=>⟨by subst hr;exact h.h⟩) h
theorem cn_ {Q:Exit→Act→World→Prop} (hu:c5p tm=true) (h:Run qq GG (WQ C Q .normal ⟨n,tm,hp,clk⟩)):Run (qq+1) GG (WSeq C P ops [] ⟨n,tm,hp,clk⟩ Q):=rg (fun h=>⟨a3A h.h⟩) h
theorem wdc {s:HSt} {t:Nat} {cx cy:Code} {b:Bool} {p q:Prop} (h1:b=true→p→HWp C P cx s Q) (h2:b=false→q→HWp C P cy s Q) (hb:tget s.tm t=some (.v (.imm (.bool b))):=by exact rfl) (hp:(b=true)=p:=by (try simp only [hcs,Int.reduceToNat]);exact rfl) (hq:(b=false)=q:=by (try simp only [hcs,Int.reduceToNat]);exact rfl):HWp C P (.cond (.tmp t) cx cy) s Q :=
 c1L b hb (fun h=>h1 h (hp▸h)) (fun h=>h2 h (hq▸h))
theorem zf {fo k:Nat} (hT:FdI P T k fo) (h1:ovl (a0P (tget tm)) x=some (.pt id gg i off)) (hlt:Nat.blt d n=true) (hk:a1b tm d=true) (h:Run qq GG (WSeq C P ops rest ⟨n,(d,.v (.pt id gg i (off+fo)))::tm,hp,clk⟩ Q)):Run (qq+1) GG (WSeq C P ops (⟨some d,.fieldAddr T x k,ty,pos,af,none⟩::rest) ⟨n,tm,hp,clk⟩ Q):=rg (fun h=>⟨sf hT.h h.h h1 hlt hk⟩) h
theorem zl (hT:TyI P T b s) (h1:ovl (a0P (tget tm)) x=some (.pt id gg i off)) (hid:hget hp id=some ⟨gg,m,sz,oty,fl,f⟩) (hi:i < m) (hoff:off+s≤sz) (hs:(b||Nat.beq s 1)=true) (hlt:Nat.blt d n=true) (hk:a1b tm d=true) (h:Run qq GG (WSeq C P ops rest ⟨n,(d,.v (ldv b s (f i) off))::tm,hp,clk⟩ Q)):Run (qq+1) GG (WSeq C P ops (⟨some d,.load T x,ty,pos,af,none⟩::rest) ⟨n,tm,hp,clk⟩ Q):=rg (fun h=>⟨st1 (a0A hT.h h1 hi hoff (fun e=>by subst e;simpa using hs)) hid hlt hk h.h⟩) h
theorem zw {hv:HV} (hT:TyI P T b s) (h1:ovl (a0P (tget tm)) x=some (.pt id gg 0 0)) (h2:ovl (a0P (tget tm)) y=some hv) (hf:hv.flat=true) (hw:hv.wid=s) (hid:hget hp id=some ⟨gg,1,s,oty,0,f⟩) (hc:clk+1=c') (h:Run qq GG (WSeq C P ops rest ⟨n,tm,(id,⟨gg,1,s,oty,0,fun _ j=>hv.cell j⟩)::hp,c'⟩ Q)):Run (qq+1) GG (WSeq C P ops (⟨none,.store T x y,ty,pos,af,none⟩::rest) ⟨n,tm,hp,clk⟩ Q):=rg (fun h=>⟨b5i (a9x hT.h h1 h2 hf hw) rfl rfl (a0C hid) hc h.h⟩) h
theorem zs {hv:HV} (hT:TyI P T b s) (h1:ovl (a0P (tget tm)) x=some (.pt id gg i off)) (h2:ovl (a0P (tget tm)) y=some hv) (hf:hv.flat=true) (hw:hv.wid=s) (hid:hget hp id=some ⟨gg,m,sz,oty,fl,f⟩) (hi:i < m) (hfl:fl≤i) (hoff:off+s≤sz) (hc:clk+1=c') (h:Run qq GG (WSeq C P ops rest ⟨n,tm,(id,⟨gg,m,sz,oty,fl,upd f i off s (fun j=>hv.cell j)⟩)::hp,c'⟩ Q)):Run (qq+1) GG (WSeq C P ops (⟨none,.store T x y,ty,pos,af,none⟩::rest) ⟨n,tm,hp,clk⟩ Q):=rg (fun h=>⟨b5i (b1J hT.h h1 h2 hf hw hi hfl hoff) rfl rfl (a0C hid) hc h.h⟩) h
theorem zi {e:TypeId} {k:IntKind} {a:Int} (hT:ElI P T e s) (h1:ovl (a0P (tget tm)) x=some (.os id gg lo i)) (h2:ovl (a0P (tget tm)) y=some (.imm (.int k a))) (hid:hget hp id=some ⟨gg,m,s,oty,fl,f⟩) (ha:0≤a) (hi:a < i) (hlt:Nat.blt d n=true) (hk:a1b tm d=true) (h:Run qq GG (WSeq C P ops rest ⟨n,(d,.v (.pt id gg (lo+a.toNat) 0))::tm,hp,clk⟩ Q)):Run (qq+1) GG (WSeq C P ops (⟨some d,.indexAddr T x y,ty,pos,af,none⟩::rest) ⟨n,tm,hp,clk⟩ Q):=rg (fun h=>⟨st1 (a3h hT.h h1 h2 ha hi) hid hlt hk h.h⟩) h
theorem zc {e:TypeId} {z w:Option Operand} {a t:Int} (hT:ElI P T e s) (h1:ovl (a0P (tget tm)) x=some (.os id gg lo i)) (hid:hget hp id=some ⟨gg,m,s,oty,fl,f⟩) (hl:z=none∧a=0∨∃ k q,z=some q∧ovl (a0P (tget tm)) q=some (.imm (.int k a))) (hh:w=none∧t=i∨∃ k q,w=some q∧ovl (a0P (tget tm)) q=some (.imm (.int k t))) (h0:0≤a) (hlh:a≤t) (hn:t≤i) (hlt:Nat.blt d n=true) (hk:a1b tm d=true) (h:Run qq GG (WSeq C P ops rest ⟨n,(d,.v (.os id gg (lo+a.toNat) (t - a).toNat))::tm,hp,clk⟩ Q)):Run (qq+1) GG (WSeq C P ops (⟨some d,.slice T x z w none,ty,pos,af,none⟩::rest) ⟨n,tm,hp,clk⟩ Q):=rg (fun h=>⟨st1 (a9s hT.h h1 hl hh h0 hlh hn) hid hlt hk h.h⟩) h
theorem zA {e:TypeId} {r k t q:Nat} {fn:Nat→Nat→HV} (hT:EiI P T e s r) (h1:ovl (a0P (tget tm)) x=some (.os id gg 0 m)) (h2:ovl (a0P (tget tm)) y=some (.sl s k fn)) (hid:hget hp id=some ⟨gg,t,s,e,fl,f⟩) (hr:r≤1000) (hm:m≤t) (hfl:fl≤m) (hk:m+k≤2000000000) (hq:m+k=q) (hlt:Nat.blt d n=true) (hn:a1b tm d=true) (hc:clk+1=c') (h:Run qq GG (WSeq C P ops rest ⟨n,(d,.v (.os id clk 0 q))::tm,(id,⟨clk,q,s,e,fl,cat m f fn⟩)::hp,c'⟩ Q)):Run (qq+1) GG (WSeq C P ops (⟨some d,.call ⟨.builtin .append,#[x,y],#[T,T]⟩,ty,pos,af,none⟩::rest) ⟨n,tm,hp,clk⟩ Q):=rg (fun h=>⟨a0t d (a0a hT.h hr h1 hm hfl (a0F h2) hk hq) rfl rfl (a0g hid a0e) hlt hn hc h.h⟩) h
theorem zB {e:TypeId} {r k t q g2 m2 sz2 fl2 id2:Nat} {oty2:TypeId} {fn:Nat→Nat→HV} (hT:EiI P T e s r) (h1:ovl (a0P (tget tm)) x=some (.os id gg 0 m)) (h2:ovl (a0P (tget tm)) y=some (.os id2 g2 0 k)) (hid:hget hp id=some ⟨gg,t,s,e,fl,f⟩) (hid2:hget hp id2=some ⟨g2,m2,s,oty2,fl2,fn⟩) (hr:r≤1000) (hm:m≤t) (hfl:fl≤m) (hm2:k≤m2) (hk:m+k≤2000000000) (hq:m+k=q) (hlt:Nat.blt d n=true) (hn:a1b tm d=true) (hc:clk+1=c') (h:Run qq GG (WSeq C P ops rest ⟨n,(d,.v (.os id clk 0 q))::tm,(id,⟨clk,q,s,e,fl,cat m f fn⟩)::hp,c'⟩ Q)):Run (qq+1) GG (WSeq C P ops (⟨some d,.call ⟨.builtin .append,#[x,y],#[T,T]⟩,ty,pos,af,none⟩::rest) ⟨n,tm,hp,clk⟩ Q):=rg (fun h=>⟨a0t d (a0a hT.h hr h1 hm hfl (a0u h2 hm2) hk hq) rfl rfl (a0g hid (a0C hid2)) hlt hn hc h.h⟩) h
theorem zb {hv:HV} (hT:TyI P T b sz) (h1:ovl (a0P (tget tm)) x=some hv) (hf:hv.flat=true) (hw:hv.wid=sz) (hp0:0 < sz) (hm:sz≤1000000) (hlt:Nat.blt d n=true) (hk:a1b tm d=true) (hc:clk+1=c') (h:Run qq GG (WSeq C P ops rest ⟨n,(d,.v (.pt d clk 0 0))::tm,(d,⟨clk,1,sz,T,0,fun _ j=>hv.cell j⟩)::hp,c'⟩ Q)):Run (qq+1) GG (WSeq C P ops (⟨some d,.box T x,ty,pos,af,none⟩::rest) ⟨n,tm,hp,clk⟩ Q):=rg (fun h=>⟨a0t d (a5U h1 hf hw hp0 hm) rfl rfl a0e hlt hk hc h.h⟩) h
theorem zo {cs:List Value} (hT:ZcI P T cs) (hY:TyI P T b sz) (hsz:cs.length=sz) (h1:cs.all (·.oneCell')=true) (hp0:0 < sz) (hm:sz≤1000000) (hlt:Nat.blt d n=true) (hk:a1b tm d=true) (hc:clk+1=c') (h:Run qq GG (WSeq C P ops rest ⟨n,(d,.v (.pt d clk 0 0))::tm,(d,⟨clk,1,sz,T,0,fun _ j=>.imm (cs.getD j undef)⟩)::hp,c'⟩ Q)):Run (qq+1) GG (WSeq C P ops (⟨some d,.alloc T,ty,pos,af,none⟩::rest) ⟨n,tm,hp,clk⟩ Q):=rg (fun h=>⟨a0t d (a4t hT.h hsz h1 hp0 hm) rfl rfl a0e hlt hk hc h.h⟩) h
theorem zv {e:TypeId} {r t:Nat} {ps:List (Nat×Operand)} {hs:List HV} (hT:EiI P T e s r) (hps:a5h (a0P (tget tm)) s 0 ps hs) (hs0:0 < s) (hn:hs.length=t) (hsm:t * s≤16777216) (hlt:Nat.blt d n=true) (hk:a1b tm d=true) (hc:clk+1=c') (h:Run qq GG (WSeq C P ops rest ⟨n,(d,.v (.os d clk 0 t))::tm,(d,⟨clk,t,s,e,0,bsf hs⟩)::hp,c'⟩ Q)):Run (qq+1) GG (WSeq C P ops (⟨some d,.buildSlice T t ps.toArray,ty,pos,af,none⟩::rest) ⟨n,tm,hp,clk⟩ Q):=rg (fun h=>⟨a0t d (a0b hT.h hs0 hn hsm hps) rfl rfl a0e hlt hk hc h.h⟩) h
theorem z0 (hop:HOp P ⟨some d,op,ty,pos,af,none⟩ (a0P (tget tm)) clk [] v []) (hlt:Nat.blt d n=true) (hk:a1b tm d=true) (h:Run qq GG (WSeq C P ops rest ⟨n,(d,.v v)::tm,hp,clk⟩ Q)):Run (qq+1) GG (WSeq C P ops (⟨some d,op,ty,pos,af,none⟩::rest) ⟨n,tm,hp,clk⟩ Q):=rg (fun h=>⟨st0 hop hlt hk h.h⟩) h
theorem zp {need:List Nat} {z:Operand} (hst:HStep P ops ⟨some d,.pick x y z,ty,pos,af,none⟩ (tget tm) clk ⟨.v v,need,[],[]⟩) (hlt:Nat.blt d n=true) (hk:a1b tm d=true) (h:Run qq GG (WSeq C P ops rest ⟨n,(d,.v v)::tm,hp,clk⟩ Q)):Run (qq+1) GG (WSeq C P ops (⟨some d,.pick x y z,ty,pos,af,none⟩::rest) ⟨n,tm,hp,clk⟩ Q):=rg (fun h=>⟨c6q d hst rfl hlt hk h.h⟩) h
theorem ym (hgi:(ops[gi]?).bind (·.dst)=some j) (hc:tget tm j=some (.v (.imm (.bool c)))) (hx:ovl (a1Z (tget tm) j b) x=some v) (hlt:Nat.blt d n=true) (hk:a1b tm d=true) (hjd:Nat.beq j d=false) (h:Run qq GG (WSeq C P ops rest ⟨n,(d,.un j b v)::tm,hp,clk⟩ Q)):Run (qq+1) GG (WSeq C P ops (⟨some d,.move x,ty,pos,af,some (gi,b)⟩::rest) ⟨n,tm,hp,clk⟩ Q):=rg (fun h=>⟨gm j h.h hx hgi hc hlt hk hjd⟩) h
theorem y0 (hgi:(ops[gi]?).bind (·.dst)=some j) (hc:tget tm j=some (.v (.imm (.bool c)))) (hop:c=b→HOp P ⟨some d,op,ty,pos,af,some (gi,b)⟩ (a1Z (tget tm) j b) clk [] v []) (hlt:Nat.blt d n=true) (hk:a1b tm d=true) (hjd:Nat.beq j d=false) (h:Run qq GG (WSeq C P ops rest ⟨n,(d,.un j b v)::tm,hp,clk⟩ Q)):Run (qq+1) GG (WSeq C P ops (⟨some d,op,ty,pos,af,some (gi,b)⟩::rest) ⟨n,tm,hp,clk⟩ Q):=rg (fun h=>⟨stg j hop hgi hc hlt hk hjd h.h⟩) h
theorem y3 {j2:Nat} {b2 c2:Bool} (hgi:(ops[gi]?).bind (·.dst)=some j) (hc:tget tm j=some (.un j2 b2 (.imm (.bool c)))) (hc2:tget tm j2=some (.v (.imm (.bool c2)))) (hop:c=b→c2=b2→HOp P ⟨some d,op,ty,pos,af,some (gi,b)⟩ (a1Z (tget tm) j b) clk [] v []) (hlt:Nat.blt d n=true) (hk:a1b tm d=true) (hjd:Nat.beq j d=false) (h:Run qq GG (WSeq C P ops rest ⟨n,(d,.un j b v)::tm,hp,clk⟩ Q)):Run (qq+1) GG (WSeq C P ops (⟨some d,op,ty,pos,af,some (gi,b)⟩::rest) ⟨n,tm,hp,clk⟩ Q):=rg (fun h=>⟨b6e d gi j j2 b2 b c c2 hop rfl rfl hgi hc hc2 a0e hlt hk hjd h.h⟩) h
theorem y2 {j2:Nat} {b2:Bool} (hgi:(ops[gi]?).bind (·.dst)=some j) (hc:tget tm j=some (.un j2 b2 (.imm (.bool c)))) (hop:c=b→HOp P ⟨some d,op,ty,pos,af,some (gi,b)⟩ (a1Z (tget tm) j b) clk [] v []) (hlt:Nat.blt d n=true) (hk:a1b tm d=true) (hjd:Nat.beq j d=false) (h:Run qq GG (WSeq C P ops rest ⟨n,(d,.un j b v)::tm,hp,clk⟩ Q)):Run (qq+1) GG (WSeq C P ops (⟨some d,op,ty,pos,af,some (gi,b)⟩::rest) ⟨n,tm,hp,clk⟩ Q):=rg (fun h=>⟨sth j hop hgi hc hlt hk hjd h.h⟩) h
theorem yl {b2:Bool} (hT:TyI P T b s) (hgi:(ops[gi]?).bind (·.dst)=some j) (hc:tget tm j=some (.v (.imm (.bool c)))) (h1:ovl (a1Z (tget tm) j b2) x=some (.pt id gg i off)) (hid:hget hp id=some ⟨gg,m,sz,oty,fl,f⟩) (hi:c=b2→i < m) (hoff:off+s≤sz) (hs:(b||Nat.beq s 1)=true) (hlt:Nat.blt d n=true) (hk:a1b tm d=true) (hjd:Nat.beq j d=false) (h:Run qq GG (WSeq C P ops rest ⟨n,(d,.un j b2 (ldv b s (f i) off))::tm,hp,clk⟩ Q)):Run (qq+1) GG (WSeq C P ops (⟨some d,.load T x,ty,pos,af,some (gi,b2)⟩::rest) ⟨n,tm,hp,clk⟩ Q):=rg (fun h=>⟨a4x d gi j b2 c (fun hb=>a0A hT.h h1 (hi hb) hoff (fun e=>by subst e;simpa using hs)) rfl rfl hgi hc (a0C hid) hlt hk hjd h.h⟩) h
theorem yi {e:TypeId} {k:IntKind} {a:Int} (hT:ElI P T e s) (hgi:(ops[gi]?).bind (·.dst)=some j) (hc:tget tm j=some (.v (.imm (.bool c)))) (h1:ovl (a1Z (tget tm) j b) x=some (.os id gg lo i)) (h2:ovl (a1Z (tget tm) j b) y=some (.imm (.int k a))) (hid:hget hp id=some ⟨gg,m,s,oty,fl,f⟩) (ha:c=b→0≤a∧a < i) (hlt:Nat.blt d n=true) (hk:a1b tm d=true) (hjd:Nat.beq j d=false) (h:Run qq GG (WSeq C P ops rest ⟨n,(d,.un j b (.pt id gg (lo+a.toNat) 0))::tm,hp,clk⟩ Q)):Run (qq+1) GG (WSeq C P ops (⟨some d,.indexAddr T x y,ty,pos,af,some (gi,b)⟩::rest) ⟨n,tm,hp,clk⟩ Q):=rg (fun h=>⟨a4x d gi j b c (fun hb=>a3h hT.h h1 h2 (ha hb).1 (ha hb).2) rfl rfl hgi hc (a0C hid) hlt hk hjd h.h⟩) h
theorem yl3 {j2:Nat} {b2 b3 c2:Bool} (hT:TyI P T b s) (hgi:(ops[gi]?).bind (·.dst)=some j) (hc:tget tm j=some (.un j2 b3 (.imm (.bool c)))) (hc2:tget tm j2=some (.v (.imm (.bool c2)))) (h1:ovl (a1Z (tget tm) j b2) x=some (.pt id gg i off)) (hid:hget hp id=some ⟨gg,m,sz,oty,fl,f⟩) (hi:c=b2→c2=b3→i < m) (hoff:off+s≤sz) (hs:(b||Nat.beq s 1)=true) (hlt:Nat.blt d n=true) (hk:a1b tm d=true) (hjd:Nat.beq j d=false) (h:Run qq GG (WSeq C P ops rest ⟨n,(d,.un j b2 (ldv b s (f i) off))::tm,hp,clk⟩ Q)):Run (qq+1) GG (WSeq C P ops (⟨some d,.load T x,ty,pos,af,some (gi,b2)⟩::rest) ⟨n,tm,hp,clk⟩ Q):=rg (fun h=>⟨b6e d gi j j2 b3 b2 c c2 (fun hb hb2=>a0A hT.h h1 (hi hb hb2) hoff (fun e=>by subst e;simpa using hs)) rfl rfl hgi hc hc2 (a0C hid) hlt hk hjd h.h⟩) h
theorem yp {need:List Nat} {z:Operand} (hgi:(ops[gi]?).bind (·.dst)=some j) (hst:HStep P ops ⟨some d,.pick x y z,ty,pos,af,some (gi,b)⟩ (tget tm) clk ⟨.un j b v,need,[],[]⟩) (hlt:Nat.blt d n=true) (hk:a1b tm d=true) (hjd:Nat.beq j d=false) (h:Run qq GG (WSeq C P ops rest ⟨n,(d,.un j b v)::tm,hp,clk⟩ Q)):Run (qq+1) GG (WSeq C P ops (⟨some d,.pick x y z,ty,pos,af,some (gi,b)⟩::rest) ⟨n,tm,hp,clk⟩ Q):=rg (fun h=>⟨c5G d hst rfl hlt hk hjd h.h⟩) h
theorem ch_ {s:HSt} {N:Act→World→Prop} {id:Nat} (h:Run qq GG (WQ C Q (.exit id) s)):Run (qq+1) GG (WQ C (Exit.then N Q) (.exit id) s):=rg (fun h=>⟨h.h⟩) h
theorem cq_ {s:HSt} {N:Act→World→Prop} (h:Run qq GG (WQ C Q .ret s)):Run (qq+1) GG (WQ C (Exit.then N Q) .ret s):=rg (fun h=>⟨h.h⟩) h
theorem cb_ {s:HSt} {id:Nat} (h:Run qq GG (WQ C Q .normal s)):Run (qq+1) GG (WQ C (Exit.inBlock id Q) .normal s):=rg (fun h=>⟨h.h⟩) h
theorem cv_ {s:HSt} {id:Nat} (h:Run qq GG (WQ C Q .ret s)):Run (qq+1) GG (WQ C (Exit.inBlock id Q) .ret s):=rg (fun h=>⟨h.h⟩) h
theorem ci_ {s:HSt} {id:Nat} (h:Run qq GG (WQ C Q .normal s)):Run (qq+1) GG (WQ C (Exit.inBlock id Q) (.exit id) s):=rg (fun h=>⟨a9R h.h⟩) h
theorem co_ {s:HSt} {id id':Nat} (hne:Nat.beq id' id=false) (h:Run qq GG (WQ C Q (.exit id') s)):Run (qq+1) GG (WQ C (Exit.inBlock id Q) (.exit id') s):=rg (fun h=>⟨b2Q hne h.h⟩) h
theorem ck_ {s:HSt} (h:Run qq GG (WQ C Q .normal s)):Run (qq+1) GG (WWp C P .skip s Q):=rg (fun h=>⟨c2W h.h⟩) h
theorem ce_ {s:HSt} {id:Nat} (h:Run qq GG (WQ C Q (.exit id) s)):Run (qq+1) GG (WWp C P (.exit id) s Q):=rg (fun h=>⟨c2e h.h⟩) h
theorem cw_ {s:HSt} (h:Run qq GG (WQ C Q .ret s)):Run (qq+1) GG (WWp C P .ret s Q):=rg (fun h=>⟨c4S h.h⟩) h
theorem cl_ {s:HSt} {id:Nat} {c:Code} (h:Run qq GG (WWp C P c s (Exit.inBlock id Q))):Run (qq+1) GG (WWp C P (.block id c) s Q):=rg (fun h=>⟨b9V h.h⟩) h
theorem cd_ {l:List Oper} {id:Nat} (h:Run qq GG (WDr P n clk tm hp l [] [] l 0 tm hp (HWp C P (.region id l.toArray true) ⟨n,tm,hp,clk⟩ Q))):Run (qq+1) GG (WWp C P (.region id l.toArray true) ⟨n,tm,hp,clk⟩ Q):=rg (fun h=>⟨c0A h.h⟩) h
theorem e1 {m:Nat} {G:Prop} {l:List Oper} {s:HSt} (h:Run m G (WSeq C P ops l s Q)):Run m G (HSeq C P ops l s Q):=⟨fun x=>(h.h x).h⟩
theorem e2 {m:Nat} {G:Prop} {c:Code} {s:HSt} (h:Run m G (WWp C P c s Q)):Run m G (HWp C P c s Q):=⟨fun x=>(h.h x).h⟩
theorem e3 {m:Nat} {G:Prop} {e:Exit} {s:HSt} (h:Run m G (WQ C Q e s)):Run m G (HQ C Q e s):=⟨fun x=>(h.h x).h⟩
theorem f1 {l:List Oper} {s:HSt}:Run 0 (HSeq C P ops l s Q) (WSeq C P ops l s Q):=⟨fun x=>⟨x⟩⟩
theorem f2 {c:Code} {s:HSt}:Run 0 (HWp C P c s Q) (WWp C P c s Q):=⟨fun x=>⟨x⟩⟩
theorem f3 {e:Exit} {s:HSt}:Run 0 (HQ C Q e s) (WQ C Q e s):=⟨fun x=>⟨x⟩⟩
end
section
variable {qq:Nat} {GG:Prop} {C:Ctx} {P:Program} {Q:Exit→Act→World→Prop} {n clk k k' c':Nat} {tm0 tm:List (Nat×TV)} {hp0 hp:List (Nat×HObj)} {ss:List HSpec} {Fin:Prop} {rest dn L:List Oper} {v:HV} {d gi j:Nat} {op:Op} {ty T:TypeId} {pos:String} {af:Array Edge} {x y:Operand} {b c:Bool} {id gg i off s m sz fl lo:Nat} {oty:TypeId} {f:Nat→Nat→HV}
theorem xm (hx:ovl (a0P (tget tm)) x=some v) (hlt:Nat.blt d n=true) (hk':k+1=k') (h:Run qq GG (WDr P n clk tm0 hp0 L (dn++[⟨some d,.move x,ty,pos,af,none⟩]) (ss++[⟨.v v,a0J ⟨some d,.move x,ty,pos,af,none⟩,[],[]⟩]) rest k' ((d,.v v)::tm) hp Fin)):Run (qq+1) GG (WDr P n clk tm0 hp0 L dn ss (⟨some d,.move x,ty,pos,af,none⟩::rest) k tm hp Fin):=rg (fun h=>⟨dm k' h.h hx hlt hk'⟩) h
theorem xl (hT:TyI P T b s) (h1:ovl (a0P (tget tm)) x=some (.pt id gg i off)) (hid:hget hp id=some ⟨gg,m,sz,oty,fl,f⟩) (hi:i < m) (hoff:off+s≤sz) (hs:(b||Nat.beq s 1)=true) (hlt:Nat.blt d n=true) (hk':k+1=k') (h:Run qq GG (WDr P n clk tm0 hp0 L (dn++[⟨some d,.load T x,ty,pos,af,none⟩]) (ss++[⟨.v (ldv b s (f i) off),a0J ⟨some d,.load T x,ty,pos,af,none⟩,[(id,⟨gg,m,sz,oty,fl,f⟩)],[]⟩]) rest k' ((d,.v (ldv b s (f i) off))::tm) hp Fin)):Run (qq+1) GG (WDr P n clk tm0 hp0 L dn ss (⟨some d,.load T x,ty,pos,af,none⟩::rest) k tm hp Fin):=rg (fun h=>⟨a3K d (a0A hT.h h1 hi hoff (fun e=>by subst e;simpa using hs)) rfl rfl (a0C hid) hlt rfl hk' h.h⟩) h
theorem xi {e:TypeId} {q:IntKind} {a:Int} (hT:ElI P T e s) (h1:ovl (a0P (tget tm)) x=some (.os id gg lo i)) (h2:ovl (a0P (tget tm)) y=some (.imm (.int q a))) (hid:hget hp id=some ⟨gg,m,s,oty,fl,f⟩) (ha:0≤a) (hi:a < i) (hlt:Nat.blt d n=true) (hk':k+1=k') (h:Run qq GG (WDr P n clk tm0 hp0 L (dn++[⟨some d,.indexAddr T x y,ty,pos,af,none⟩]) (ss++[⟨.v (.pt id gg (lo+a.toNat) 0),a0J ⟨some d,.indexAddr T x y,ty,pos,af,none⟩,[(id,⟨gg,m,s,oty,fl,f⟩)],[]⟩]) rest k' ((d,.v (.pt id gg (lo+a.toNat) 0))::tm) hp Fin)):Run (qq+1) GG (WDr P n clk tm0 hp0 L dn ss (⟨some d,.indexAddr T x y,ty,pos,af,none⟩::rest) k tm hp Fin):=rg (fun h=>⟨a3K d (a3h hT.h h1 h2 ha hi) rfl rfl (a0C hid) hlt rfl hk' h.h⟩) h
theorem xw {hv:HV} (hT:TyI P T b s) (h1:ovl (a0P (tget tm)) x=some (.pt id gg 0 0)) (h2:ovl (a0P (tget tm)) y=some hv) (hf:hv.flat=true) (hw:hv.wid=s) (hid:hget hp id=some ⟨gg,1,s,oty,0,f⟩) (hk':k+1=k') (h:Run qq GG (WDr P n clk tm0 hp0 L (dn++[⟨none,.store T x y,ty,pos,af,none⟩]) (ss++[⟨.v (.imm undef),a0J ⟨none,.store T x y,ty,pos,af,none⟩,[(id,⟨gg,1,s,oty,0,f⟩)],[(id,⟨gg,1,s,oty,0,fun _ j=>hv.cell j⟩)]⟩]) rest k' tm ((id,⟨gg,1,s,oty,0,fun _ j=>hv.cell j⟩)::hp) Fin)):Run (qq+1) GG (WDr P n clk tm0 hp0 L dn ss (⟨none,.store T x y,ty,pos,af,none⟩::rest) k tm hp Fin):=rg (fun h=>⟨c4e (a9x hT.h h1 h2 hf hw) rfl rfl (a0C hid) hk' h.h⟩) h
theorem xs {hv:HV} (hT:TyI P T b s) (h1:ovl (a0P (tget tm)) x=some (.pt id gg i off)) (h2:ovl (a0P (tget tm)) y=some hv) (hf:hv.flat=true) (hw:hv.wid=s) (hid:hget hp id=some ⟨gg,m,sz,oty,fl,f⟩) (hi:i < m) (hfl:fl≤i) (hoff:off+s≤sz) (hk':k+1=k') (h:Run qq GG (WDr P n clk tm0 hp0 L (dn++[⟨none,.store T x y,ty,pos,af,none⟩]) (ss++[⟨.v (.imm undef),a0J ⟨none,.store T x y,ty,pos,af,none⟩,[(id,⟨gg,m,sz,oty,fl,f⟩)],[(id,⟨gg,m,sz,oty,fl,upd f i off s (fun j=>hv.cell j)⟩)]⟩]) rest k' tm ((id,⟨gg,m,sz,oty,fl,upd f i off s (fun j=>hv.cell j)⟩)::hp) Fin)):Run (qq+1) GG (WDr P n clk tm0 hp0 L dn ss (⟨none,.store T x y,ty,pos,af,none⟩::rest) k tm hp Fin):=rg (fun h=>⟨c4e (b1J hT.h h1 h2 hf hw hi hfl hoff) rfl rfl (a0C hid) hk' h.h⟩) h
theorem x0 (hop:HOp P ⟨some d,op,ty,pos,af,none⟩ (a0P (tget tm)) (clk+k) [] v []) (hlt:Nat.blt d n=true) (hk':k+1=k') (h:Run qq GG (WDr P n clk tm0 hp0 L (dn++[⟨some d,op,ty,pos,af,none⟩]) (ss++[⟨.v v,a0J ⟨some d,op,ty,pos,af,none⟩,[],[]⟩]) rest k' ((d,.v v)::tm) hp Fin)):Run (qq+1) GG (WDr P n clk tm0 hp0 L dn ss (⟨some d,op,ty,pos,af,none⟩::rest) k tm hp Fin):=rg (fun h=>⟨d0 k' hop h.h hlt hk'⟩) h
theorem xp {need:List Nat} {z:Operand} (hst:HStep P L.toArray ⟨some d,.pick x y z,ty,pos,af,none⟩ (tget tm) (clk+k) ⟨.v v,need,[],[]⟩) (hlt:Nat.blt d n=true) (hk':k+1=k') (h:Run qq GG (WDr P n clk tm0 hp0 L (dn++[⟨some d,.pick x y z,ty,pos,af,none⟩]) (ss++[⟨.v v,need,[],[]⟩]) rest k' ((d,.v v)::tm) hp Fin)):Run (qq+1) GG (WDr P n clk tm0 hp0 L dn ss (⟨some d,.pick x y z,ty,pos,af,none⟩::rest) k tm hp Fin):=rg (fun h=>⟨c6p d hst rfl hlt rfl hk' h.h⟩) h
theorem xg (hgi:(L.toArray[gi]?).bind (·.dst)=some j) (hc:tget tm j=some (.v (.imm (.bool c)))) (hop:c=b→HOp P ⟨some d,op,ty,pos,af,some (gi,b)⟩ (a1Z (tget tm) j b) (clk+k) [] v []) (hlt:Nat.blt d n=true) (hk':k+1=k') (h:Run qq GG (WDr P n clk tm0 hp0 L (dn++[⟨some d,op,ty,pos,af,some (gi,b)⟩]) (ss++[⟨.un j b v,j::a0J ⟨some d,op,ty,pos,af,some (gi,b)⟩,[],[]⟩]) rest k' ((d,.un j b v)::tm) hp Fin)):Run (qq+1) GG (WDr P n clk tm0 hp0 L dn ss (⟨some d,op,ty,pos,af,some (gi,b)⟩::rest) k tm hp Fin):=rg (fun h=>⟨a5Q d gi j b c hop rfl rfl hgi hc a0e hlt rfl rfl hk' h.h⟩) h
theorem xn {id:Nat} {l:List Oper} (hu:c5p tm=true) (hm:P.follows .mixedOrders=true) (hc:c3D l ss tm0=true) (hc':clk+k=c') (nd:C.rd=none∨l.all Oper.calm=true) (h:Run qq GG (WQ C Q .normal ⟨n,tm,hp,c'⟩)):Run (qq+1) GG (WDr P n clk tm0 hp0 l dn ss [] k tm hp (HWp C P (.region id l.toArray true) ⟨n,tm0,hp0,clk⟩ Q)):=rg (fun h=>⟨b4f hm hc hc' h.h nd⟩) h
theorem e4 {m:Nat} {G:Prop} (h:Run m G (WDr P n clk tm0 hp0 L dn ss rest k tm hp Fin)):Run m G (HDr P n clk tm0 hp0 L dn ss rest k tm hp Fin):=⟨fun x=>(h.h x).h⟩
theorem f4:Run 0 (HDr P n clk tm0 hp0 L dn ss rest k tm hp Fin) (WDr P n clk tm0 hp0 L dn ss rest k tm hp Fin):=⟨fun x=>⟨x⟩⟩
end
theorem ru (n:Nat) {G' G:Prop} (k:G') (h:Run n G' G:=by ((with_reducible first | apply e1 | apply e2 | apply e3 | apply e4);repeat (first
 | exact f1
 | exact f2
 | exact f3
 | exact f4
 | (apply zm;(iterate 3 exact rfl))
 | (apply za;(iterate 3 exact rfl))
 | apply cs_
 | (apply cr_;(first | exact .inr rfl | exact .inl rfl | exact .inl (by assumption)))
 | (apply cn_;exact rfl)
 | (apply cu_;exact rfl;(simp only [a7t,a8g];exact rfl))
 | (apply ct_;exact rfl)
 | apply ck_
 | apply ce_
 | apply cw_
 | apply cl_
 | apply ch_
 | apply cq_
 | apply cb_
 | apply cv_
 | apply ci_
 | (apply co_;exact rfl)
 | apply cd_
 | (apply zf;infer_instance;(iterate 3 exact rfl))
 | (apply zl;infer_instance;(iterate 2 exact rfl);(iterate 2 exact omg);(iterate 3 exact rfl))
 | (apply zw;infer_instance;(iterate 5 exact rfl);exact ckk)
 | (apply zs;infer_instance;(iterate 5 exact rfl);(iterate 3 exact omg);exact ckk)
 | (apply zi;infer_instance;(iterate 3 exact rfl);(iterate 2 exact omg);(iterate 2 exact rfl))
 | (apply zc;infer_instance;(iterate 2 exact rfl);(iterate 2 exact lhh);(iterate 3 exact omg);(iterate 2 exact rfl))
 | (apply zA;infer_instance;(iterate 3 exact rfl);exact nb rfl;(iterate 3 exact omg);(iterate 3 exact rfl);exact ckk)
 | (apply zB;infer_instance;(iterate 4 exact rfl);exact nb rfl;(iterate 4 exact omg);(iterate 3 exact rfl);exact ckk)
 | (apply zb;infer_instance;(iterate 3 exact rfl);(iterate 2 exact nb rfl);(iterate 2 exact rfl);exact ckk)
 | (apply zo;(iterate 2 infer_instance);(iterate 2 exact rfl);(iterate 2 exact nb rfl);(iterate 2 exact rfl);exact ckk)
 | (apply zv;infer_instance;exact loo;exact nb rfl;exact rfl;exact nb rfl;(iterate 2 exact rfl);exact ckk)
 | (apply zp;(first | exact b0X _ _ rfl rfl rfl | exact b3T _ _ rfl rfl rfl | exact a5o _ _ _ _ rfl rfl rfl (fun _=>.refl _) (fun _=>.refl _) | fail);(iterate 2 exact rfl))
 | (apply z0;exact hpA;(iterate 2 exact rfl))
 | (apply ym;(iterate 6 exact rfl))
 | (apply yl;infer_instance;(iterate 4 exact rfl);(intro hb;exact omg);exact omg;(iterate 4 exact rfl))
 | (apply yl3;infer_instance;(iterate 5 exact rfl);(intro hb hb2;exact omg);exact omg;(iterate 4 exact rfl))
 | (apply yi;infer_instance;(iterate 5 exact rfl);(intro hb;exact ⟨omg,omg⟩);(iterate 3 exact rfl))
 | (apply yp;exact rfl;(first | exact a6M _ _ rfl rfl rfl rfl | exact a7T _ _ rfl rfl rfl rfl | exact a3P _ _ _ _ rfl rfl rfl rfl (fun _=>.refl _) (fun _=>.refl _) | fail);(iterate 3 exact rfl))
 | (apply y0;(iterate 2 exact rfl);(intro hb;exact hpA);(iterate 3 exact rfl))
 | (apply y3;(iterate 3 exact rfl);(intro hb hb2;exact hpA);(iterate 3 exact rfl))
 | (apply y2;(iterate 2 exact rfl);(intro hb;exact hpA);(iterate 3 exact rfl))
 | (apply xm;(iterate 2 exact rfl);exact ckk)
 | (apply xl;infer_instance;(iterate 2 exact rfl);(iterate 2 exact omg);(iterate 2 exact rfl);exact ckk)
 | (apply xi;infer_instance;(iterate 3 exact rfl);(iterate 2 exact omg);exact rfl;exact ckk)
 | (apply xw;infer_instance;(iterate 5 exact rfl);exact ckk)
 | (apply xs;infer_instance;(iterate 5 exact rfl);(iterate 3 exact omg);exact ckk)
 | (apply xp;(first | exact b0X _ _ rfl rfl rfl | exact b3T _ _ rfl rfl rfl | exact a5o _ _ _ _ rfl rfl rfl (fun _=>.refl _) (fun _=>.refl _) | fail);exact rfl;exact ckk)
 | (apply x0;exact hpA;exact rfl;exact ckk)
 | (apply xg;(iterate 2 exact rfl);(intro hb;exact hpA);exact rfl;exact ckk)
 | (apply xn;exact rfl;(iterate 2 kernel_rfl);exact ckk;(first | exact .inr rfl | exact .inl rfl | exact .inl (by assumption)))
 | fail))):G:=h.h k
section
variable {C:Ctx} {P:Program} {ops:Array Oper} {Q:Exit→Act→World→Prop} {n clk:Nat} {tm:List (Nat×TV)} {hp:List (Nat×HObj)} {rest:List Oper} {v v':HV} {d gi j j2:Nat} {ty:TypeId} {pos:String} {af:Array Edge} {b b2 c c2:Bool}
theorem rvl (v':HV) (e:v=v') (h:HSeq C P ops rest ⟨n,(d,.v v')::tm,hp,clk⟩ Q):HSeq C P ops rest ⟨n,(d,.v v)::tm,hp,clk⟩ Q:=by subst e;exact h
theorem ryx (v':HV) {p:Prop} (e:p→v=v') (hp':∀ w E (a:Act),(∀ t x,tget tm t=some x→t≠d→TVRep w E a (a.tmps.getD t undef) x)→a.tmps.getD j undef=.bool b→p) (h:HSeq C P ops rest ⟨n,(d,.un j b v')::tm,hp,clk⟩ Q):HSeq C P ops rest ⟨n,(d,.un j b v)::tm,hp,clk⟩ Q:=fun a w ⟨E,e0,r,hG,hsz,hdf,ht⟩ =>
  h a w ⟨E, e0, r, hG, hsz, hdf, fun t x hx => by
    rw [a0z] at hx
    split at hx
    · rename_i ht'
      injection hx with hx;subst hx;subst ht'
      have h0:=ht t (.un j b v) (by rw [a0z,if_pos rfl])
      refine ⟨fun hj=>?_,h0.2⟩
      have:=e (hp' w E a (fun t' x hx hne=>ht t' x (by rw [a0z,if_neg hne];exact hx)) hj)
      subst this;exact h0.1 hj
    · rename_i hne;exact ht t x (by rw [a0z,if_neg hne];exact hx)⟩
theorem ry (v':HV) (hc:tget tm j=some (.v (.imm (.bool c)))) (e:c=b→v=v') (h:HSeq C P ops rest ⟨n,(d,.un j b v')::tm,hp,clk⟩ Q) (hjd:Nat.beq j d=false:=by exact rfl):HSeq C P ops rest ⟨n,(d,.un j b v)::tm,hp,clk⟩ Q :=
 ryx v' e (fun w E a ht hj=>by
  have:=Rep.imm_inv (ht j _ hc (fun h=>by subst h;simp at hjd));rw [hj] at this;injection this with this;exact this.symm) h
theorem ry3 (v':HV) (hc:tget tm j=some (.un j2 b2 (.imm (.bool c)))) (hc2:tget tm j2=some (.v (.imm (.bool c2)))) (e:c=b→c2=b2→v=v') (h:HSeq C P ops rest ⟨n,(d,.un j b v')::tm,hp,clk⟩ Q) (hjd:Nat.beq j d=false:=by exact rfl) (hjd2:Nat.beq j2 d=false:=by exact rfl):HSeq C P ops rest ⟨n,(d,.un j b v)::tm,hp,clk⟩ Q :=
 ryx (p:=c=b∧c2=b2) v' (fun h=>e h.1 h.2) (fun w E a ht hj=>by
  have h1:=ht j _ hc (fun h=>by subst h;simp at hjd)
  have h2:=Rep.imm_inv (ht j2 _ hc2 (fun h=>by subst h;simp at hjd2))
  have h3:a.tmps.getD j2 undef=.bool b2:=Classical.byContradiction fun h=>by have:=h1.2 h;rw [hj] at this;exact absurd this (by simp [undef])
  have h4:=Rep.imm_inv (h1.1 h3)
  rw [hj] at h4;rw [h3] at h2;injection h4 with h4;injection h2 with h2;exact ⟨h4.symm,h2.symm⟩) h
theorem fz0 {sh:List (Nat×HObj)}:a4U sh [] []:=trivial
theorem fz1 {sh:List (Nat×HObj)} {x y:HV} {xs ys:List HV} (h:Fz sh x y) (r:a4U sh xs ys):a4U sh (x::xs) (y::ys):=⟨h,r⟩
theorem fzz {sh:List (Nat×HObj)} {xs ys:List HV} (h:a4U sh xs ys:=by repeat (first | exact fz0 | (apply fz1;(first | exact fe | exact fzc | fail)))):a4U sh xs ys:=h
theorem cll {f:FuncId} {args:List Operand} {at_:Array TypeId} {xs ys:List HV} (hp':a0q P f ys v) (h:HSeq C P ops rest ⟨n,(d,.v v)::tm,hp,clk⟩ Q) (hx:a2I (a0P (tget tm)) args xs:=by exact oaa) (hz:a4U [] xs ys:=by exact fzz) (hlt:Nat.blt d n=true:=by exact rfl) (hk:a1b tm d=true:=by exact rfl):HSeq C P ops (⟨some d,.call ⟨.value (.func f),args.toArray,at_⟩,ty,pos,af,none⟩::rest) ⟨n,tm,hp,clk⟩ Q:=st0 (a0i hp' hx hz) hlt hk h
theorem clx {k k':Nat} {tm0:List (Nat×TV)} {hp0:List (Nat×HObj)} {ss:List HSpec} {Fin:Prop} {dn L:List Oper} {f:FuncId} {args:List Operand} {at_:Array TypeId} {xs ys:List HV} (hp':a0q P f ys v) (h:HDr P n clk tm0 hp0 L (dn++[⟨some d,.call ⟨.value (.func f),args.toArray,at_⟩,ty,pos,af,none⟩]) (ss++[⟨.v v,a0J ⟨some d,.call ⟨.value (.func f),args.toArray,at_⟩,ty,pos,af,none⟩,[],[]⟩]) rest k' ((d,.v v)::tm) hp Fin) (hx:a2I (a0P (tget tm)) args xs:=by exact oaa) (hz:a4U [] xs ys:=by exact fzz) (hlt:Nat.blt d n=true:=by exact rfl) (hk':k+1=k':=by exact ckk):HDr P n clk tm0 hp0 L dn ss (⟨some d,.call ⟨.value (.func f),args.toArray,at_⟩,ty,pos,af,none⟩::rest) k tm hp Fin:=d0 k' (a0i hp' hx hz) h hlt hk'
theorem rvc {s:HSt} {t:Nat} {T oty:TypeId} {id gg sz n osz fl:Nat} {b:Bool} {f:Nat→Nat→HV} {x:HV} (h:tget s.tm t=some (.v (.pt id gg 0 0))) (ho:hget s.hp id=some ⟨gg,n,osz,oty,fl,f⟩) (hT:TyI P T b sz) (hs:b=false→sz=1) (hn:Nat.blt 0 n=true) (hz:Nat.ble sz osz=true) (hx:ldv b sz (f 0) 0=x):a5G P s (.cell t T) x:=hx▸a0Q h ho hT.h hs hn hz
theorem rvx {s:HSt} {r:ResultVar} {x:HV} (h:a5G P s r x:=by first | exact a0r rfl | (apply rvc;exact rfl;exact rfl;infer_instance;exact rq_;exact rfl;exact rfl;exact rfl) | fail):a5G P s r x:=h
def RV1 (P:Program) (fn:Func) (s:HSt) (x:HV):Prop:=∃ r,fn.results=#[r]∧a5G P s r x
def RV2 (P:Program) (fn:Func) (s:HSt) (x y:HV):Prop:=∃ r q,fn.results=#[r,q]∧a5G P s r x∧a5G P s q y
theorem rw1 {fn:Func} {s:HSt} {x:HV} (h:RV1 P fn s x:=by (refine ⟨_,rfl,?_⟩;exact rvx)):RV1 P fn s x:=h
theorem rw2 {fn:Func} {s:HSt} {x y:HV} (h:RV2 P fn s x y:=by (refine ⟨_,_,rfl,?_,?_⟩;exact rvx;exact rvx)):RV2 P fn s x y:=h
end
section
variable {P:Program} {w:World} {F:Addr→Prop} {fn:Func} {r1 r2 r3:ResultVar} {s:HSt} {x1 x2 x3 y:HV}
theorem rt1 (hz:Fz [] x1 y) (hres:fn.results=#[r1]:=by exact rfl) (h1:a5G P s r1 x1:=by exact rvx):HQ (Ctx.top w F) (bodyPost P fn (a0X w F y)) .ret s:=a8h hres h1 [] rfl a0e hz
theorem rt2 (hz:Fz [] (t2 x1 x2) y) (hres:fn.results=#[r1,r2]:=by exact rfl) (h1:a5G P s r1 x1:=by exact rvx) (h2:a5G P s r2 x2:=by exact rvx):HQ (Ctx.top w F) (bodyPost P fn (a0X w F y)) .ret s:=a4X hres h1 h2 [] rfl a0e hz
theorem rt3 (hz:Fz [] (t3 x1 x2 x3) y) (hres:fn.results=#[r1,r2,r3]:=by exact rfl) (h1:a5G P s r1 x1:=by exact rvx) (h2:a5G P s r2 x2:=by exact rvx) (h3:a5G P s r3 x3:=by exact rvx):HQ (Ctx.top w F) (bodyPost P fn (a0X w F y)) .ret s:=a5f hres h1 h2 h3 [] rfl a0e hz
variable {α:Type} {I:α→Nat→Prop} {r:α→HV} {kpf:α→List (Nat×HObj)} {X:Clr} {pre:List (Nat×HObj)}
theorem fr1 (ok:X.Ok) (hX:X.pre=pre) (h1:RV1 P fn s x1) (x:α) (hI:I x s.clk) (hz:Kz (kpf x) [] x1 (r x)) (hkp:b0R (kpf x) [] s.hp (kpf x)) (hpk:(pre.all fun p=>(hget (kpf x) p.1).isSome)=true:=by exact rfl) (hks:((kpf x).all fun p=>!(([]:List (Nat×HObj)).map (·.1)).any (Nat.beq p.1))=true:=by exact rfl):HQ X.ctx (bodyPost P fn (a1p X (a4W I r kpf))) .ret s:=by obtain ⟨_,a,b⟩:=h1;exact a1F ok hX a3m.one a b [] rfl a0e x hI hpk hks hz hkp
theorem fr2 (ok:X.Ok) (hX:X.pre=pre) (h1:RV2 P fn s x1 x2) (x:α) (hI:I x s.clk) (hz:Kz (kpf x) [] (t2 x1 x2) (r x)) (hkp:b0R (kpf x) [] s.hp (kpf x)) (hpk:(pre.all fun p=>(hget (kpf x) p.1).isSome)=true:=by exact rfl) (hks:((kpf x).all fun p=>!(([]:List (Nat×HObj)).map (·.1)).any (Nat.beq p.1))=true:=by exact rfl):HQ X.ctx (bodyPost P fn (a1p X (a4W I r kpf))) .ret s:=by obtain ⟨_,_,a,b,c⟩:=h1;exact b9d ok hX a3m.one a b c [] rfl a0e x hI hpk hks hz hkp
end
theorem c5D {α:Type} {w:World} {E:Env} {v:Value} (sz:Nat) (enc:α→List Value) (henc:∀ x,(enc x).length=sz) (encF:α→Nat→HV) (hF:∀ x j,j < sz→encF x j=.imm ((enc x).getD j undef)) (d:α) (l:List α)
    (h:Rep w E v (.sl sz l.length (fun i=>encF (l.getD i d)))):∃ A c,v=.slice A l.length c∧l.length≤c∧c≤maxLen∧Sl w w.heap.size sz enc A l:=by
  cases h with
  | sl A _ c _ _ vs hc hm hA h =>
    refine ⟨A,c,rfl,hc,hm,henc,a3D henc l,fun hn=>?_⟩
    obtain ⟨b,o,rfl,hlt,hcell⟩:=hA hn
    refine ⟨_,rfl,hlt,fun p u hu=>?_⟩
    have hp:p < l.length * sz:=by
      rcases Nat.lt_or_ge p (l.flatMap enc).length with h1 | h1
      · rwa [a3D henc] at h1
      · rw [List.getElem?_eq_none h1] at hu;cases hu
    have hs:0 < sz:=Nat.pos_of_ne_zero (fun h0=>by subst h0;simp at hp)
    have hi:p / sz < l.length:=(Nat.div_lt_iff_lt_mul hs).2 hp
    have hj:p % sz < sz:=Nat.mod_lt _ hs
    have e1:p=p / sz * sz+p % sz:=by rw [Nat.mul_comm];exact (Nat.div_add_mod p sz).symm
    rw [a3r,e1,(hcell _ _ hi hj).2.1]
    rw [e1,a2i henc l _ _ hi hj] at hu
    have hr:Rep w E (vs (p / sz) (p % sz)) (encF (l.getD (p / sz) d) (p % sz)):=h _ _ hi hj
    rw [hF _ _ hj] at hr
    have hv:=hr.imm_inv
    rw [hv]
    have hg:l.getD (p / sz) d=l[p / sz]:=by simp [List.getD,List.getElem?_eq_getElem hi]
    rw [hg]
    have:(enc l[p / sz]).getD (p % sz) undef=u:=by simp [List.getD,hu]
    rw [this]
theorem a3a {w w':World} {F:Addr→Prop} {u:Value} (hF:∀ a,F a→a.spot=none∧(w.cell? a).isSome=true) (hb:Below w.heap.size w w'):a0X w F (.imm u) (.returned u) w' :=
 ⟨hb,u,F,rfl,fun _ h=>h,fun _ h=>.inl h,fun a ha=>⟨(hF a ha).1,by rw [World.cell?_of_block (hb.block _ (a1a (hF a ha).2))];exact (hF a ha).2⟩,.imm u⟩
theorem b5m {α:Type} {w w':World} {F:Addr→Prop} (hF:∀ a,F a→a.spot=none∧(w.cell? a).isSome=true) {e:TypeId} {sz:Nat} {enc:α→List Value} (encF:α→Nat→HV) (hFe:∀ x j,j < sz→encF x j=.imm ((enc x).getD j undef)) (h1:∀ x,∀ u∈enc x,u.oneCell'=true) (d:α) {l:List α} {en:Ending}
  (h:b2T e sz enc w l en w'):a0X w F (.sl sz l.length (fun i=>encF (l.getD i d))) en w':=by
 obtain ⟨A,c,rfl,hown,hb⟩:=h
 have henc:=hown.1
 have hFk:∀ a,F a→(w'.cell? a)=w.cell? a:=fun a ha=>World.cell?_of_block (hb.block _ (a1a (hF a ha).2))
 rcases hown.2.2 with ⟨hv,hn⟩ | ⟨b,cap,cur,hv,hbase,hblk,hn,hcap,hsz,htake⟩
 ·injection hv with hA _ hc
  subst hA;subst hc
  have hl:l=[]:=List.eq_nil_of_length_eq_zero hn
  subst hl
  refine ⟨hb,_,F,rfl,fun _ h=>h,fun _ h=>.inl h,fun a ha=>⟨(hF a ha).1,by rw [hFk a ha];exact (hF a ha).2⟩,?_⟩
  exact .sl _ 0 0 sz _ (fun _ _=>undef) (Nat.le_refl _) (Nat.zero_le _) (fun h=>absurd h (Nat.lt_irrefl _)) (fun i j hi=>absurd hi (Nat.not_lt_zero _))
 ·injection hv with hA _ hc
  subst hA;subst hc
  have hB:Blk w' b e cur:=hblk
  have hcell:∀ i j,i < l.length→j < sz→w'.cell? ⟨b,i * sz+j,none⟩=some ((enc (l.getD i d)).getD j undef):=by
   intro i j hi hj
   have hlt:=a7U (sz:=sz) hi hj
   have hg:l.getD i d=l[i]:=by simp [List.getD,List.getElem?_eq_getElem hi]
   have hj':j < (enc l[i]).length:=by rw [henc];exact hj
   have hg2:(enc l[i]).getD j undef=(enc l[i])[j]:=by simp [List.getD,List.getElem?_eq_getElem hj']
   rw [hB.cell,hg,hg2,←Array.getElem?_toList]
   have:=a2i henc l i j hi hj
   rw [←htake,List.getElem?_take,if_pos hlt] at this
   rw [this,List.getElem?_eq_getElem hj']
  refine ⟨hb,_,fun a=>F a∨(a.block=b∧a.spot=none∧a.off < l.length * sz),rfl,fun _ h=>.inl h,fun a ha=>?_,fun a ha=>?_,?_⟩
  ·rcases ha with ha | ⟨ha,_⟩
   ·exact .inl ha
   ·exact .inr (by rw [ha];exact hbase)
  ·rcases ha with ha | ⟨ha,hs,ho⟩
   ·exact ⟨(hF a ha).1,by rw [hFk a ha];exact (hF a ha).2⟩
   ·obtain ⟨ab,ao,asp⟩:=a
    simp only at ha hs ho
    subst ha;subst hs
    refine ⟨rfl,?_⟩
    have:ao < cur.size:=by rw [hsz];exact Nat.lt_of_lt_of_le ho (Nat.mul_le_mul_right _ hn)
    rw [hB.cell,Array.getElem?_eq_getElem this];rfl
  ·refine .sl _ _ _ sz _ (fun i j=>(enc (l.getD i d)).getD j undef) hn hcap (fun hp=>⟨b,0,rfl,hB.lt,fun i j hi hj=>?_⟩) (fun i j hi hj=>by show Rep _ _ _ (encF _ _);rw [hFe _ _ hj];exact .imm _)
   rw [Nat.zero_add]
   refine ⟨.inr ⟨rfl,rfl,a7U hi hj⟩,hcell i j hi hj,?_⟩
   have hj':j < (enc (l.getD i d)).length:=by rw [henc];exact hj
   have hg2:(enc (l.getD i d)).getD j undef=(enc (l.getD i d))[j]:=by rw [List.getD_eq_getElem?_getD,List.getElem?_eq_getElem hj'];rfl
   rw [hg2]
   exact h1 _ _ (List.getElem_mem hj')
theorem c0Z {w:World} {E:Env} {vs:List Value} {x:HV} (h:RepAll w E vs [x]):∃ v,vs=[v]∧Rep w E v x:=by
 match vs,h with
 | [v],h=>exact ⟨v,rfl,h.1⟩
theorem c3A {w:World} {E:Env} {vs:List Value} {x y:HV} (h:RepAll w E vs [x,y]):∃ u v,vs=[u,v]∧Rep w E u x∧Rep w E v y:=by
 match vs,h with
 | [u,v],h=>exact ⟨u,v,rfl,h.1,h.2.1⟩
def c0T (w:World) (a:Addr):Prop:=a.spot=none∧(w.cell? a).isSome=true
theorem b8H {α:Type} {w:World} {B:Nat} {A:Option Addr} {c:Nat} (sz:Nat) (hs:0 < sz) (enc:α→List Value) (enc1:∀ x,∀ u∈enc x,u.oneCell'=true) (encF:α→Nat→HV) (d:α) (l:List α) (hc:l.length≤c) (hm:c≤maxLen) (h:Sl w B sz enc A l)
  (hr:∀ i j,i < l.length→j < sz→Rep w (Env.just (c0T w)) ((enc (l.getD i d)).getD j undef) (encF (l.getD i d) j)):Rep w (Env.just (c0T w)) (.slice A l.length c) (.sl sz l.length (fun i=>encF (l.getD i d))):=by
 refine .sl A l.length c sz _ (fun i j=>(enc (l.getD i d)).getD j undef) hc hm (fun hn=>?_) hr
 obtain ⟨b,o,rfl,hb⟩:=h.addr hn hs
 have cell:∀ i j,i < l.length→j < sz→w.cell? ⟨b,o+(i * sz+j),none⟩=some ((enc (l.getD i d)).getD j undef)∧((enc (l.getD i d)).getD j undef).oneCell'=true:=by
  intro i j hi hj
  have:=h.cell_ hi j hj
  have hg:l.getD i d=l[i]:=by rw [List.getD_eq_getElem?_getD,List.getElem?_eq_getElem hi];rfl
  have hj':j < (enc l[i]).length:=by rw [h.1];exact hj
  have hg2:(enc l[i]).getD j undef=(enc l[i])[j]:=by rw [List.getD_eq_getElem?_getD,List.getElem?_eq_getElem hj'];rfl
  rw [hg,hg2,show o+(i * sz+j)=o+i * sz+j from by omega,this,List.getElem?_eq_getElem hj']
  exact ⟨rfl,enc1 _ _ (List.getElem_mem hj')⟩
 have hlt:b < w.heap.size:=by
  have:=(cell 0 0 hn hs).1
  exact World.block_lt_of_cell? w _ this
 exact ⟨b,o,rfl,hlt,fun i j hi hj=>⟨⟨rfl,by rw [(cell i j hi hj).1];rfl⟩,(cell i j hi hj).1,(cell i j hi hj).2⟩⟩
theorem c0r {P:Program} {f:FuncId} {xs:List HV} (h:a0q P f xs (a0s true)) (w:World) (vs:List Value) (hr:RepAll w (Env.just (c0T w)) vs xs) (hw:LibW w):Calls P f vs.toArray w fun e w'=>e=.returned (.bool true)∧Below w.heap.size w w':=by
 refine (h.2 w (c0T w) vs (fun a h=>h) hr hw).mono ?_
 rintro e w' ⟨hb,v,F',rfl,_,_,_,hv⟩
 rw [hv.imm_inv]
 exact ⟨rfl,hb⟩
end Go.Proofs.YtjdmfohncgkdoaaGreatDoor
namespace Go.Proofs
open Go.Shelf
def Tryz.lays169_ren:Go.Shelf.Ren:=⟨fun | 169=>28 | n=>n,fun | 70=>59 | 9=>9 | 0=>0 | 72=>62 | 37=>60 | 127=>96 | 3=>3 | 5=>5 | n=>n,fun | n=>n⟩
theorem Tryz.lays169:Go.Proofs.Lays.n169 Tryz.prog Tryz.lays169_ren:={
 mixed:=by kernel_rfl
 f169:=Tryz.func28.trans (congrArg some (by kernel_rfl))
 t0:=Tryz.underlying0
 a0:=Tryz.isAgg0
 z0:=Tryz.sizeOf0
 v0:=Tryz.zeroValue0
 t3:=Tryz.underlying3
 a3:=Tryz.isAgg3
 z3:=Tryz.sizeOf3
 v3:=Tryz.zeroValue3
 t9:=Tryz.underlying9
 a9:=Tryz.isAgg9
 z9:=Tryz.sizeOf9
 v9:=Tryz.zeroValue9
 t37:=Tryz.underlying60
 a37:=Tryz.isAgg60
 z37:=Tryz.sizeOf60
 v37:=Tryz.zeroValue60
 t70:=Tryz.underlying59
 a70:=Tryz.isAgg59
 z70:=Tryz.sizeOf59
 v70:=Tryz.zeroValue59
 t72:=Tryz.underlying62
 a72:=Tryz.isAgg62
 z72:=Tryz.sizeOf62
 v72:=Tryz.zeroValue62
 t127:=Tryz.underlying96
 a127:=Tryz.isAgg96
 z127:=Tryz.sizeOf96
 v127:=Tryz.zeroValue96 }
theorem Tryz.Builder_Extra_169:Builder.Extra Tryz.prog Tryz.lays169_ren:={
 sizeBuilder:=by kernel_rfl
 liesBuilder:=by kernel_rfl
 t5:=Tryz.underlying5
 a5:=Tryz.isAgg5
 z5:=Tryz.sizeOf5
 v5:=Tryz.zeroValue5
 infoByte:=by kernel_rfl
 cellsByte:=by kernel_rfl
 sizeByte:=by kernel_rfl
 neB5:=by decide }
open Go.RowKit in
theorem Tryz.Builder_String_any (B b:Nat) (l:List UInt8) (w:World) (h:Lib.IsBuilder 62 5 B b (Lib.byteCells l) w) (hBw:B≤w.heap.size) :
  Calls Tryz.prog 28 #[.pointer (some ⟨b,0,none⟩)] w fun e w'=>e=.returned (.string ⟨l.toArray⟩)∧Below B w w':=Any.Builder_String_any Tryz.lays169 Tryz.Builder_Extra_169 B b l w h hBw
def Tryz.laysM171_ren:Go.Shelf.Ren:=⟨fun | 171=>72 | 243=>98 | 246=>125 | 283=>146 | 284=>147 | 285=>148 | 286=>149 | 129=>163 | 317=>162 | 318=>164 | 319=>165 | 320=>166 | 337=>170 | 338=>171 | n=>n,fun | 3=>3 | 9=>9 | 2=>2 | 4=>4 | 171=>199 | 0=>0 | 53=>136 | 37=>60 | 5=>5 | 173=>202 | 212=>222 | 51=>208 | 20=>20 | 213=>223 | 46=>192 | 232=>237 | 233=>238 | n=>n,fun | 17=>3 | 18=>6 | 19=>7 | n=>n⟩
theorem Tryz.laysM171:Go.Proofs.LaysM.n171 Tryz.prog Tryz.laysM171_ren:={
 mixed:=by kernel_rfl
 f129:=Tryz.func163.trans (congrArg some (by kernel_rfl))
 f171:=Tryz.func72.trans (congrArg some (by kernel_rfl))
 f243:=Tryz.func98.trans (congrArg some (by kernel_rfl))
 f246:=Tryz.func125.trans (congrArg some (by kernel_rfl))
 f283:=Tryz.func146.trans (congrArg some (by kernel_rfl))
 f284:=Tryz.func147.trans (congrArg some (by kernel_rfl))
 f285:=Tryz.func148.trans (congrArg some (by kernel_rfl))
 f286:=Tryz.func149.trans (congrArg some (by kernel_rfl))
 f317:=Tryz.func162.trans (congrArg some (by kernel_rfl))
 f318:=Tryz.func164.trans (congrArg some (by kernel_rfl))
 f319:=Tryz.func165.trans (congrArg some (by kernel_rfl))
 f320:=Tryz.func166.trans (congrArg some (by kernel_rfl))
 f337:=Tryz.func170.trans (congrArg some (by kernel_rfl))
 f338:=Tryz.func171.trans (congrArg some (by kernel_rfl))
 t0:=Tryz.underlying0
 a0:=Tryz.isAgg0
 z0:=Tryz.sizeOf0
 v0:=Tryz.zeroValue0
 t2:=Tryz.underlying2
 a2:=Tryz.isAgg2
 z2:=Tryz.sizeOf2
 v2:=Tryz.zeroValue2
 t3:=Tryz.underlying3
 a3:=Tryz.isAgg3
 z3:=Tryz.sizeOf3
 v3:=Tryz.zeroValue3
 t4:=Tryz.underlying4
 a4:=Tryz.isAgg4
 z4:=Tryz.sizeOf4
 v4:=Tryz.zeroValue4
 t5:=Tryz.underlying5
 a5:=Tryz.isAgg5
 z5:=Tryz.sizeOf5
 v5:=Tryz.zeroValue5
 t9:=Tryz.underlying9
 a9:=Tryz.isAgg9
 z9:=Tryz.sizeOf9
 v9:=Tryz.zeroValue9
 t20:=Tryz.underlying20
 a20:=Tryz.isAgg20
 z20:=Tryz.sizeOf20
 v20:=Tryz.zeroValue20
 t37:=Tryz.underlying60
 a37:=Tryz.isAgg60
 z37:=Tryz.sizeOf60
 v37:=Tryz.zeroValue60
 t46:=Tryz.underlying192
 a46:=Tryz.isAgg192
 z46:=Tryz.sizeOf192
 v46:=Tryz.zeroValue192
 t51:=Tryz.underlying208
 a51:=Tryz.isAgg208
 z51:=Tryz.sizeOf208
 v51:=Tryz.zeroValue208
 t53:=Tryz.underlying136
 a53:=Tryz.isAgg136
 z53:=Tryz.sizeOf136
 v53:=Tryz.zeroValue136
 t171:=Tryz.underlying199
 a171:=Tryz.isAgg199
 z171:=Tryz.sizeOf199
 v171:=Tryz.zeroValue199
 t173:=Tryz.underlying202
 a173:=Tryz.isAgg202
 z173:=Tryz.sizeOf202
 v173:=Tryz.zeroValue202
 t212:=Tryz.underlying222
 a212:=Tryz.isAgg222
 z212:=Tryz.sizeOf222
 v212:=Tryz.zeroValue222
 t213:=Tryz.underlying223
 a213:=Tryz.isAgg223
 z213:=Tryz.sizeOf223
 t232:=Tryz.underlying237
 a232:=Tryz.isAgg237
 z232:=Tryz.sizeOf237
 v232:=Tryz.zeroValue237
 t233:=Tryz.underlying238
 a233:=Tryz.isAgg238
 z233:=Tryz.sizeOf238
 v233:=Tryz.zeroValue238
 g17:=by kernel_rfl
 g18:=by kernel_rfl
 g19:=by kernel_rfl
 i0:=by kernel_rfl
 i2:=by kernel_rfl
 i3:=by kernel_rfl
 i4:=by kernel_rfl
 i5:=by kernel_rfl
 i9:=by kernel_rfl
 i20:=by kernel_rfl
 i37:=by kernel_rfl
 i46:=by kernel_rfl
 i51:=by kernel_rfl
 i53:=by kernel_rfl
 i171:=by kernel_rfl
 i173:=by kernel_rfl
 i212:=by kernel_rfl
 i232:=by kernel_rfl
 i233:=by kernel_rfl
 m17:=by kernel_rfl
 m18:=by kernel_rfl
 m19:=by kernel_rfl }
open Go.RowKit Go.Sort Go.Lib in
theorem Tryz.strconv_Itoa (n:Int) (h0:-9223372036854775808≤n) (h1:n≤9223372036854775807) (w:World) (htab:Lib.TabIs Tryz.prog w "internal/strconv.uint64pow10" .u64 Lib.pow10Tab) :
  Calls Tryz.prog 72 #[.int .i64 n] w fun e w'=>e=.returned (.string ⟨(Lib.itoa n).toArray⟩)∧∃ k os,w'=grow (w.drewN k) os:=Any.strconv_Itoa Tryz.laysM171 n h0 h1 w htab
def Tryz.laysC172_ren:Go.Shelf.Ren:=⟨fun | 172=>119 | 244=>139 | 245=>140 | 247=>154 | 279=>155 | 280=>156 | 281=>157 | 282=>158 | 287=>167 | 316=>168 | 171=>72 | 205=>169 | 321=>172 | 322=>173 | 243=>98 | 246=>125 | 283=>146 | 284=>147 | 285=>148 | 286=>149 | 129=>163 | 317=>162 | 318=>164 | 319=>165 | 320=>166 | 337=>170 | 338=>171 | n=>n,fun | 9=>9 | 3=>3 | 75=>69 | 76=>70 | 4=>4 | 5=>5 | 167=>211 | 37=>60 | 0=>0 | 85=>212 | 2=>2 | 168=>214 | 53=>136 | 175=>226 | 46=>192 | 210=>230 | 127=>96 | 145=>236 | 143=>234 | 21=>21 | 171=>199 | 173=>202 | 212=>222 | 51=>208 | 20=>20 | 213=>223 | 232=>237 | 233=>238 | 80=>74 | n=>n,fun | 15=>4 | 16=>5 | 17=>3 | 18=>6 | 19=>7 | n=>n⟩
theorem Tryz.laysC172:Go.Proofs.LaysC.n172 Tryz.prog Tryz.laysC172_ren:={
 mixed:=by kernel_rfl
 f129:=Tryz.func163.trans (congrArg some (by kernel_rfl))
 f171:=Tryz.func72.trans (congrArg some (by kernel_rfl))
 f172:=Tryz.func119.trans (congrArg some (by kernel_rfl))
 f205:=Tryz.func169.trans (congrArg some (by kernel_rfl))
 f243:=Tryz.func98.trans (congrArg some (by kernel_rfl))
 f244:=Tryz.func139.trans (congrArg some (by kernel_rfl))
 f245:=Tryz.func140.trans (congrArg some (by kernel_rfl))
 f246:=Tryz.func125.trans (congrArg some (by kernel_rfl))
 f247:=Tryz.func154.trans (congrArg some (by kernel_rfl))
 f279:=Tryz.func155.trans (congrArg some (by kernel_rfl))
 f280:=Tryz.func156.trans (congrArg some (by kernel_rfl))
 f281:=Tryz.func157.trans (congrArg some (by kernel_rfl))
 f282:=Tryz.func158.trans (congrArg some (by kernel_rfl))
 f283:=Tryz.func146.trans (congrArg some (by kernel_rfl))
 f284:=Tryz.func147.trans (congrArg some (by kernel_rfl))
 f285:=Tryz.func148.trans (congrArg some (by kernel_rfl))
 f286:=Tryz.func149.trans (congrArg some (by kernel_rfl))
 f287:=Tryz.func167.trans (congrArg some (by kernel_rfl))
 f316:=Tryz.func168.trans (congrArg some (by kernel_rfl))
 f317:=Tryz.func162.trans (congrArg some (by kernel_rfl))
 f318:=Tryz.func164.trans (congrArg some (by kernel_rfl))
 f319:=Tryz.func165.trans (congrArg some (by kernel_rfl))
 f320:=Tryz.func166.trans (congrArg some (by kernel_rfl))
 f321:=Tryz.func172.trans (congrArg some (by kernel_rfl))
 f322:=Tryz.func173.trans (congrArg some (by kernel_rfl))
 f337:=Tryz.func170.trans (congrArg some (by kernel_rfl))
 f338:=Tryz.func171.trans (congrArg some (by kernel_rfl))
 t0:=Tryz.underlying0
 a0:=Tryz.isAgg0
 z0:=Tryz.sizeOf0
 v0:=Tryz.zeroValue0
 t2:=Tryz.underlying2
 a2:=Tryz.isAgg2
 z2:=Tryz.sizeOf2
 v2:=Tryz.zeroValue2
 t3:=Tryz.underlying3
 a3:=Tryz.isAgg3
 z3:=Tryz.sizeOf3
 v3:=Tryz.zeroValue3
 t4:=Tryz.underlying4
 a4:=Tryz.isAgg4
 z4:=Tryz.sizeOf4
 v4:=Tryz.zeroValue4
 t5:=Tryz.underlying5
 a5:=Tryz.isAgg5
 z5:=Tryz.sizeOf5
 v5:=Tryz.zeroValue5
 t9:=Tryz.underlying9
 a9:=Tryz.isAgg9
 z9:=Tryz.sizeOf9
 v9:=Tryz.zeroValue9
 t20:=Tryz.underlying20
 a20:=Tryz.isAgg20
 z20:=Tryz.sizeOf20
 v20:=Tryz.zeroValue20
 t21:=Tryz.underlying21
 a21:=Tryz.isAgg21
 z21:=Tryz.sizeOf21
 v21:=Tryz.zeroValue21
 t37:=Tryz.underlying60
 a37:=Tryz.isAgg60
 z37:=Tryz.sizeOf60
 v37:=Tryz.zeroValue60
 t46:=Tryz.underlying192
 a46:=Tryz.isAgg192
 z46:=Tryz.sizeOf192
 v46:=Tryz.zeroValue192
 t51:=Tryz.underlying208
 a51:=Tryz.isAgg208
 z51:=Tryz.sizeOf208
 v51:=Tryz.zeroValue208
 t53:=Tryz.underlying136
 a53:=Tryz.isAgg136
 z53:=Tryz.sizeOf136
 v53:=Tryz.zeroValue136
 t75:=Tryz.underlying69
 a75:=Tryz.isAgg69
 z75:=Tryz.sizeOf69
 v75:=Tryz.zeroValue69
 t76:=Tryz.underlying70
 a76:=Tryz.isAgg70
 z76:=Tryz.sizeOf70
 v76:=Tryz.zeroValue70
 t85:=Tryz.underlying212
 a85:=Tryz.isAgg212
 z85:=Tryz.sizeOf212
 v85:=Tryz.zeroValue212
 t127:=Tryz.underlying96
 a127:=Tryz.isAgg96
 z127:=Tryz.sizeOf96
 v127:=Tryz.zeroValue96
 t143:=Tryz.underlying234
 a143:=Tryz.isAgg234
 z143:=Tryz.sizeOf234
 v143:=Tryz.zeroValue234
 t145:=Tryz.underlying236
 a145:=Tryz.isAgg236
 z145:=Tryz.sizeOf236
 v145:=Tryz.zeroValue236
 t167:=Tryz.underlying211
 a167:=Tryz.isAgg211
 z167:=Tryz.sizeOf211
 v167:=Tryz.zeroValue211
 t168:=Tryz.underlying214
 a168:=Tryz.isAgg214
 z168:=Tryz.sizeOf214
 v168:=Tryz.zeroValue214
 t171:=Tryz.underlying199
 a171:=Tryz.isAgg199
 z171:=Tryz.sizeOf199
 v171:=Tryz.zeroValue199
 t173:=Tryz.underlying202
 a173:=Tryz.isAgg202
 z173:=Tryz.sizeOf202
 v173:=Tryz.zeroValue202
 t175:=Tryz.underlying226
 a175:=Tryz.isAgg226
 z175:=Tryz.sizeOf226
 v175:=Tryz.zeroValue226
 t210:=Tryz.underlying230
 a210:=Tryz.isAgg230
 z210:=Tryz.sizeOf230
 v210:=Tryz.zeroValue230
 t212:=Tryz.underlying222
 a212:=Tryz.isAgg222
 z212:=Tryz.sizeOf222
 v212:=Tryz.zeroValue222
 t213:=Tryz.underlying223
 a213:=Tryz.isAgg223
 z213:=Tryz.sizeOf223
 t232:=Tryz.underlying237
 a232:=Tryz.isAgg237
 z232:=Tryz.sizeOf237
 v232:=Tryz.zeroValue237
 t233:=Tryz.underlying238
 a233:=Tryz.isAgg238
 z233:=Tryz.sizeOf238
 v233:=Tryz.zeroValue238
 g15:=by kernel_rfl
 g16:=by kernel_rfl
 g17:=by kernel_rfl
 g18:=by kernel_rfl
 g19:=by kernel_rfl
 t80:=Tryz.underlying74
 a80:=Tryz.isAgg74
 z80:=Tryz.sizeOf74
 v80:=Tryz.zeroValue74
 i0:=by kernel_rfl
 i2:=by kernel_rfl
 i3:=by kernel_rfl
 i4:=by kernel_rfl
 i5:=by kernel_rfl
 i9:=by kernel_rfl
 i20:=by kernel_rfl
 i21:=by kernel_rfl
 i37:=by kernel_rfl
 i46:=by kernel_rfl
 i51:=by kernel_rfl
 i53:=by kernel_rfl
 i75:=by kernel_rfl
 i76:=by kernel_rfl
 i80:=by kernel_rfl
 i85:=by kernel_rfl
 i127:=by kernel_rfl
 i143:=by kernel_rfl
 i145:=by kernel_rfl
 i167:=by kernel_rfl
 i168:=by kernel_rfl
 i171:=by kernel_rfl
 i173:=by kernel_rfl
 i175:=by kernel_rfl
 i210:=by kernel_rfl
 i212:=by kernel_rfl
 i232:=by kernel_rfl
 i233:=by kernel_rfl
 m15:=by kernel_rfl
 m16:=by kernel_rfl
 m17:=by kernel_rfl
 m18:=by kernel_rfl
 m19:=by kernel_rfl
 c0:=by kernel_rfl
 c2:=by kernel_rfl
 c3:=by kernel_rfl
 c4:=by kernel_rfl
 c5:=by kernel_rfl
 c9:=by kernel_rfl
 c20:=by kernel_rfl
 c21:=by kernel_rfl
 c37:=by kernel_rfl
 c46:=by kernel_rfl
 c51:=by kernel_rfl
 c53:=by kernel_rfl
 c75:=by kernel_rfl
 c76:=by kernel_rfl
 c80:=by kernel_rfl
 c85:=by kernel_rfl
 c127:=by kernel_rfl
 c143:=by kernel_rfl
 c145:=by kernel_rfl
 c167:=by kernel_rfl
 c168:=by kernel_rfl
 c171:=by kernel_rfl
 c173:=by kernel_rfl
 c175:=by kernel_rfl
 c210:=by kernel_rfl
 c212:=by kernel_rfl
 c213:=by kernel_rfl
 c232:=by kernel_rfl
 c233:=by kernel_rfl }
open Go.RowKit in
theorem Tryz.strconv_Atoi_ok (s:ByteArray) (hmax:s.size≤9223372036854775806) (v:Int) (h:Lib.atoiAll s.data.toList=.ok v) (w:World) :
  Calls Tryz.prog 119 #[.string s] w fun e w'=>e=.returned (.tuple #[.int .i64 v,.nilIface])∧(w'=w∨∃ t,w'=Lib.bytesWorld w 5 t):=Any.strconv_Atoi_ok Tryz.laysC172 s hmax v h w
open Go.RowKit in
theorem Tryz.strconv_Atoi_syntax_var (s:ByteArray) (hlim:s.size≤281474976710656) (h:Lib.atoiAll s.data.toList=Lib.atoiAll []) (tp:TypeId) (p:Value) (w:World) (hvar:w.var? Tryz.prog "strconv.ErrSyntax" = some #[.iface tp p]) :
  Calls Tryz.prog 119 #[.string s] w fun e w'=>∃ N,e=.returned (.tuple #[.int .i64 0,.iface 214 (.pointer (some ⟨N,0,none⟩))])∧w.heap.size≤N∧w'.heap[N]?=some (.cells #[.string ⟨#[65,116,111,105]⟩,.string s,.iface tp p] 230 (0,0))∧Below w.heap.size w w':=Any.strconv_Atoi_syntax_var Tryz.laysC172 s hlim h tp p w hvar
open Go.RowKit in
theorem Tryz.strconv_Atoi_range_var (s:ByteArray) (hlim:s.size≤281474976710656) (h:Lib.atoiAll s.data.toList=.range) (tp:TypeId) (p:Value) (w:World) (hvar:w.var? Tryz.prog "strconv.ErrRange" = some #[.iface tp p]) :
  Calls Tryz.prog 119 #[.string s] w fun e w'=>∃ N,e=.returned (.tuple #[.int .i64 (Lib.atoiSat s.data.toList),.iface 214 (.pointer (some ⟨N,0,none⟩))])∧w.heap.size≤N∧w'.heap[N]?=some (.cells #[.string ⟨#[65,116,111,105]⟩,.string s,.iface tp p] 230 (0,0))∧Below w.heap.size w w':=Any.strconv_Atoi_range_var Tryz.laysC172 s hlim h tp p w hvar
end Go.Proofs
namespace Go.Proofs.YtjdmfohncgkdoaaGreatDoor
set_option linter.unusedSimpArgs false
set_option linter.unusedVariables false
open Go.Lib Go.RowKit
theorem a4G (u:Nat) (h:¬ u < 10):decDigits u=decDigits (u / 10)++[UInt8.ofNat (48+u % 10)]:=by rw [decDigits,dif_neg h]
theorem a3i (u:Nat) (h:u < 10):decDigits u=[UInt8.ofNat (48+u)]:=by rw [decDigits,dif_pos h]
theorem a3C (d:Nat) (h:d < 10):(UInt8.ofNat (48+d)).toNat=48+d:=by
 rw [UInt8.toNat_ofNat'];omega
theorem b1l (u:Nat):∀ c∈decDigits u,48≤c.toNat∧c.toNat≤57:=by
  induction u using Nat.strongRecOn with
  | _ u ih =>
    intro c hc
    by_cases h:u < 10
    · rw [a3i u h,List.mem_singleton] at hc
      subst hc
      rw [a3C u h];omega
    · rw [a4G u h,List.mem_append,List.mem_singleton] at hc
      rcases hc with hc | rfl
      · exact ih (u / 10) (by omega) c hc
      · rw [a3C _ (by omega)];omega
theorem b4P (u:Nat):decDigits u≠[]:=by
 by_cases h:u < 10
 ·rw [a3i u h];simp
 ·rw [a4G u h];simp
theorem b0v (k:Nat):∀ u,u < 10 ^ (k+1)→(decDigits u).length≤k+1:=by
  induction k with
  | zero=>intro u h;rw [a3i u (by simpa using h)];simp
  | succ k ih =>
    intro u h
    by_cases h0:u < 10
    · rw [a3i u h0];simp
    · rw [a4G u h0,List.length_append]
      have:=ih (u / 10) (by rw [Nat.pow_succ] at h;omega)
      simp only [List.length_singleton];omega
theorem b2e (a b:List UInt8):∀ acc v,parseUint10 acc a=.ok v→parseUint10 acc (a++b)=parseUint10 v b:=by
  induction a with
  | nil=>intro acc v h;simp only [parseUint10] at h;injection h with h;rw [h];rfl
  | cons c r ih =>
    intro acc v h
    simp only [List.cons_append,parseUint10] at h ⊢
    split at h
    · rename_i h1
      rw [if_pos h1]
      split at h
      · cases h
      · rename_i h2
        rw [if_neg h2]
        split at h
        · cases h
        · rename_i h3
          rw [if_neg h3]
          exact ih _ _ h
    · cases h
theorem b2p (u:Nat) (hu:u≤9223372036854775809):parseUint10 0 (decDigits u)=.ok u:=by
  induction u using Nat.strongRecOn with
  | _ u ih =>
    by_cases h:u < 10
    · rw [a3i u h]
      simp only [parseUint10,a3C u h]
      rw [if_pos (by omega),if_neg (by omega),if_neg (by omega)]
      congr 1;omega
    · rw [a4G u h,b2e _ _ 0 (u / 10) (ih (u / 10) (by omega) (by omega))]
      simp only [parseUint10,a3C _ (Nat.mod_lt u (by omega:0 < 10))]
      rw [if_pos (by omega),if_neg (by omega),if_neg (by omega)]
      congr 1;omega
theorem b9L (u:Nat) (h:u≤9223372036854775808):atoiAll (45::decDigits u)=.ok (-(u:Int)):=by
 have h45:(45:UInt8).toNat=45:=rfl
 have hm:parseMag (decDigits u)=.ok u:=by unfold parseMag;rw [if_neg (b4P u),b2p u (by omega)]
 simp only [atoiAll,h45,or_true,if_true,hm]
 rw [if_neg (by simp),if_neg (by omega)]
theorem b9n (u:Nat) (h:u < 9223372036854775808):atoiAll (decDigits u)=.ok (u:Int):=by
 obtain ⟨c,r,e⟩:∃ c r,decDigits u=c::r:=by
  cases hd:decDigits u with
  | nil=>exact absurd hd (b4P u)
  | cons c r=>exact ⟨c,r,rfl⟩
 have hc:=b1l u c (by rw [e];simp)
 have hp:=b2p u (by omega)
 rw [e] at hp
 rw [e]
 simp only [atoiAll,parseMag]
 rw [if_neg (show ¬(c.toNat=43∨c.toNat=45) by omega),if_neg (by simp),hp]
 simp only
 rw [if_neg (by omega),if_neg (by omega)]
 simp [show ¬ c.toNat=45 by omega]
theorem b6K (n:Int) (h0:-9223372036854775808≤n) (h1:n≤9223372036854775807):atoiAll (itoa n)=.ok n:=by
 unfold itoa
 split
 ·rw [b9L n.natAbs (by omega)];congr 1;omega
 ·rw [b9n n.toNat (by omega)];congr 1;omega
def a3f (l:List UInt8):Option Int :=
 match atoiAll l with
 | .ok v=>if itoa v=l then some v else none
 | _=>none
def a3u:Nat→List UInt8→Option Nat
 | acc,[]=>some acc
 | acc,c::r=>if c.toNat < 48∨57 < c.toNat∨922337203685477580 < acc then none else a3u (10 * acc+(c.toNat - 48)) r
theorem b1E (a b:List UInt8):∀ acc v,a3u acc a=some v→a3u acc (a++b)=a3u v b:=by
  induction a with
  | nil=>intro acc v h;simp only [a3u] at h;injection h with h;rw [h];rfl
  | cons c r ih =>
    intro acc v h
    simp only [List.cons_append,a3u] at h ⊢
    split at h
    · cases h
    · rename_i h1
      rw [if_neg h1]
      exact ih _ _ h
theorem b1v (u:Nat) (hu:u≤9223372036854775809):a3u 0 (decDigits u)=some u:=by
  induction u using Nat.strongRecOn with
  | _ u ih =>
    by_cases h:u < 10
    · rw [a3i u h]
      simp only [a3u,a3C u h]
      rw [if_neg (by omega)]
      congr 1;omega
    · rw [a4G u h,b1E _ _ 0 (u / 10) (ih (u / 10) (by omega) (by omega))]
      simp only [a3u,a3C _ (Nat.mod_lt u (by omega:0 < 10))]
      rw [if_neg (by omega)]
      congr 1;omega
def a2L (l:List UInt8):List UInt8:=if l.head?.map (·.toNat)=some 45 then l.tail else l
def a3E (l:List UInt8) (x:Nat):Int:=if l.head?.map (·.toNat)=some 45 then wrap64 (0 - (x:Int)) else wrap64 (x:Int)
def a8Z (l:List UInt8):Option Int :=
 if l.length=0∨20 < l.length then none else
 match a3u 0 (a2L l) with
 | none=>none
 | some x=>if itoa (a3E l x)=l then some (a3E l x) else none
theorem c0o (n:Int) (h0:-9223372036854775808≤n) (h1:n≤9223372036854775807):a8Z (itoa n)=some n:=by
 have hl:(itoa n).length≠0∧(itoa n).length≤20:=by
  unfold itoa
  split
  ·have:=b0v 18 n.natAbs (by omega)
   simp only [List.length_cons];omega
  ·have:=b0v 18 n.toNat (by omega)
   have:=b4P n.toNat
   have:(decDigits n.toNat).length≠0:=fun h=>this (List.eq_nil_of_length_eq_zero h)
   omega
 unfold a8Z
 rw [if_neg (by omega)]
 by_cases hn:n < 0
 ·have e:itoa n=45::decDigits n.natAbs:=by unfold itoa;rw [if_pos hn]
  have hb:a2L (itoa n)=decDigits n.natAbs:=by rw [e];simp [a2L]
  have hi:a3E (itoa n) n.natAbs=n:=by
   have hh:(itoa n).head?.map (·.toNat)=some 45:=by rw [e];rfl
   unfold a3E;rw [if_pos hh];unfold wrap64;omega
  rw [hb,b1v _ (by omega)]
  simp only [hi,if_true]
 ·have e:itoa n=decDigits n.toNat:=by unfold itoa;rw [if_neg hn]
  obtain ⟨c,r,e2⟩:∃ c r,decDigits n.toNat=c::r:=by
   cases hd:decDigits n.toNat with
   | nil=>exact absurd hd (b4P _)
   | cons c r=>exact ⟨c,r,rfl⟩
  have hc:=b1l n.toNat c (by rw [e2];simp)
  have hh:¬ ((itoa n).head?.map (·.toNat)=some 45):=by rw [e,e2];simp;omega
  have hb:a2L (itoa n)=decDigits n.toNat:=by unfold a2L;rw [if_neg hh,e]
  have hi:a3E (itoa n) n.toNat=n:=by unfold a3E;rw [if_neg hh];unfold wrap64;omega
  rw [hb,b1v _ (by omega)]
  simp only [hi,if_true]
theorem b6E (n:Int) (h0:-9223372036854775808≤n) (h1:n≤9223372036854775807):a3f (itoa n)=some n:=by
 unfold a3f;rw [b6K n h0 h1];simp
theorem a6s (l:List UInt8) (x:Nat):-9223372036854775808≤a3E l x∧a3E l x≤9223372036854775807:=by
 unfold a3E;split <;> (unfold wrap64;omega)
theorem a5H {l:List UInt8} {u:Int} (ha:atoiAll l=.ok u):-9223372036854775808≤u∧u≤9223372036854775807:=by
 unfold atoiAll at ha
 split at ha
 ·cases ha
 ·simp only at ha
  split at ha
  ·cases ha
  ·cases ha
  ·rename_i hm
   have:=parseMag_lt hm
   split at ha
   ·cases ha
   ·split at ha
    ·cases ha
    ·injection ha with ha
     subst ha
     split <;> omega
theorem b3p {l:List UInt8} {v:Int} (h:a3f l=some v):itoa v=l∧-9223372036854775808≤v∧v≤9223372036854775807:=by
  unfold a3f at h
  cases ha:atoiAll l with
  | ok u =>
    rw [ha] at h
    simp only at h
    split at h
    · rename_i h1
      injection h with h
      subst h
      have hb:=a5H ha
      exact ⟨h1,hb⟩
    · cases h
  | range=>rw [ha] at h;cases h
  | _=>rw [ha] at h;cases h
theorem b7g (l:List UInt8):a8Z l=a3f l:=by
  cases h:a3f l with
  | some v =>
    obtain ⟨h1,h2,h3⟩:=b3p h
    rw [←h1]
    exact c0o v h2 h3
  | none =>
    cases h':a8Z l with
    | none=>rfl
    | some v =>
      unfold a8Z at h'
      split at h'
      · cases h'
      · split at h'
        · cases h'
        · rename_i x _
          split at h'
          · rename_i he
            have hb:=a6s l x
            have:=b6E (a3E l x) hb.1 hb.2
            rw [he,h] at this
            cases this
          · cases h'
def a9C (x0 x k:Nat) (l:List UInt8):Prop:=(k=0∧x=x0∧l=[])∨(0 < k∧x=0∧l=decDigits x0)∨(0 < k∧0 < x∧decDigits x++l=decDigits x0)
def a4M (x:Nat):Nat:=if x=0 then 0 else (decDigits x).length
theorem b1c (x:Nat) (h:0 < x):a4M (x / 10)+1=a4M x:=by
 unfold a4M
 by_cases h1:x < 10
 ·rw [if_pos (by omega),if_neg (by omega),a3i x h1];rfl
 ·rw [if_neg (by omega),if_neg (by omega),a4G x h1,List.length_append];rfl
theorem b3w {x0 x k:Nat} {l:List UInt8} (h:a9C x0 x k l) (hk:k=0∨0 < x):a9C x0 (x / 10) (k+1) (UInt8.ofNat (48+x % 10)::l):=by
 have key:decDigits x++l=decDigits x0→a9C x0 (x / 10) (k+1) (UInt8.ofNat (48+x % 10)::l):=by
  intro e
  by_cases h1:x < 10
  ·rw [a3i x h1] at e
   refine .inr (.inl ⟨by omega,by omega,?_⟩)
   rw [Nat.mod_eq_of_lt h1];exact e
  ·rw [a4G x h1] at e
   refine .inr (.inr ⟨by omega,by omega,?_⟩)
   rw [←e];simp
 rcases h with ⟨_,h1,h2⟩ | ⟨h1,h2,h3⟩ | ⟨h1,h2,h3⟩
 ·subst h1;subst h2;exact key (by simp)
 ·omega
 ·exact key h3
theorem b5F {x0 x k:Nat} {l:List UInt8} (h:a9C x0 x k l) (hk:¬ (k=0∨0 < x)):l=decDigits x0:=by
 rcases h with ⟨h1,_,_⟩ | ⟨_,_,h3⟩ | ⟨_,h2,_⟩
 ·omega
 ·exact h3
 ·omega
theorem b5y {x:Nat} (h:x < 18446744073709551616):a4M x≤20:=by
 unfold a4M;split
 ·omega
 ·exact b0v 19 x (by omega)
end Go.Proofs.YtjdmfohncgkdoaaGreatDoor
namespace Go.Proofs.YtjdmfohncgkdoaaGreatDoor
set_option linter.unusedSimpArgs false
set_option linter.unusedVariables false
open Go.RowKit
open Go.Lib hiding intOf
theorem a8Q {P:Program} {w w':World} {name:String} {x:Array Value} (h:w.var? P name=some x) (b:Below w.heap.size w w'):w'.var? P name=some x:=by
  unfold World.var? at *
  cases hg:P.globalNamed name with
  | none=>rw [hg] at h;cases h
  | some g =>
    rw [hg] at h
    simp only [Option.bind_some] at h ⊢
    cases hh:w.heap[g]? with
    | none=>rw [hh] at h;cases h
    | some o =>
      have hlt:g < w.heap.size:=by
        rcases Nat.lt_or_ge g w.heap.size with h1 | h1
        · exact h1
        · rw [Array.getElem?_eq_none h1] at hh;cases hh
      rw [b.block g hlt]
      exact h
structure LibAt (w:World):Prop where
 tab:Lib.TabIs Tryz.prog w "internal/strconv.uint64pow10" .u64 Lib.pow10Tab
 syn:∃ tp p,w.var? Tryz.prog "strconv.ErrSyntax" = some #[.iface tp p]
 rng:∃ tp p,w.var? Tryz.prog "strconv.ErrRange" = some #[.iface tp p]
theorem LibAt.below {w w':World} (h:LibAt w) (b:Below w.heap.size w w'):LibAt w' :=
 ⟨a8Q h.tab b,h.syn.imp fun _ h=>h.imp fun _ h=>a8Q h b,h.rng.imp fun _ h=>h.imp fun _ h=>a8Q h b⟩
def c3B:Option Int→Value
 | some v=>.tuple #[.int .i64 v,.bool true]
 | none=>.tuple #[.int .i64 0,.bool false]
theorem b3W (n:Int) (h0:-9223372036854775808≤n) (h1:n≤9223372036854775807) (w:World) (hw:LibAt w) :
  Calls Tryz.prog 72 #[.int .i64 n] w fun e w'=>e=.returned (.string ⟨(itoa n).toArray⟩)∧Below w.heap.size w w':=by
 refine (Tryz.strconv_Itoa n h0 h1 w hw.tab).mono ?_
 rintro e w' ⟨rfl,k,os,rfl⟩
 refine ⟨rfl,rfl,rfl,rfl,by show w.heap.size≤(w.heap++os).size;rw [Array.size_append];omega,fun j hj=>?_⟩
 show (w.heap++os)[j]?=w.heap[j]?
 rw [Array.getElem?_append_left hj]
theorem b0V (s:ByteArray):s.toList=s.data.toList:=ByteArray.toList_eq s
theorem b0z {w W:World} {t:Nat} (h:W=w∨∃ s,W=Lib.bytesWorld w t s):Below w.heap.size w W:=by
 rcases h with rfl | ⟨s,rfl⟩
 ·exact Below.refl _ _
 ·exact Lib.bytesWorld_below _ _ _
theorem c4n (n:Int) (h0:-9223372036854775808≤n) (h1:n≤9223372036854775807) (w:World) (hw:LibAt w) :
  Calls Tryz.prog 48 #[.int .i64 n] w fun e w'=>e=.returned (.string ⟨(itoa n).toArray⟩)∧Below w.heap.size w w':=by
 go_enter Tryz.func48,Tryz.ntmps48
 go_wp2_with (go_at_call 72;refine (b3W n h0 h1 _ hw).mono ?_;rintro e w1 ⟨rfl,b1⟩)
 go_ret
 exact ⟨rfl,b1⟩
theorem c5q (s:ByteArray) (hs:s.size≤281474976710656) (w:World) (hw:LibAt w) :
    Calls Tryz.prog 90 #[.string s] w fun e w'=>e=.returned (c3B (a3f s.data.toList))∧Below w.heap.size w w':=by
  cases h:atoiAll s.data.toList with
  | ok v =>
    have hv:-9223372036854775808≤v∧v≤9223372036854775807:=a5H h
    have hst:=b0V s
    cases hq:(itoa v == s.toList) with
    | true =>
      have hr:a3f s.data.toList=some v:=by simp only [a3f,h];rw [if_pos];rw [←hst];simpa using hq
      rw [hr]
      clear hst
      go_enter Tryz.func90,Tryz.ntmps90
      go_wp2_with (first | (go_at_call 119;refine (Tryz.strconv_Atoi_ok s (by omega) v h _).mono ?_;rintro e W1 ⟨rfl,hW1⟩;have b1:=b0z hW1;clear hW1) | (go_at_call 72;refine (b3W v hv.1 hv.2 _ (hw.below b1)).mono ?_;rintro e W2 ⟨rfl,b2⟩))
      go_ret2
      exact ⟨rfl,b1.trans (b2.mono b1.size)⟩
    | false =>
      have hr:a3f s.data.toList=none:=by simp only [a3f,h];rw [if_neg];rw [←hst];simpa using hq
      rw [hr]
      clear hst
      go_enter Tryz.func90,Tryz.ntmps90
      go_wp2_with (first | (go_at_call 119;refine (Tryz.strconv_Atoi_ok s (by omega) v h _).mono ?_;rintro e W1 ⟨rfl,hW1⟩;have b1:=b0z hW1;clear hW1) | (go_at_call 72;refine (b3W v hv.1 hv.2 _ (hw.below b1)).mono ?_;rintro e W2 ⟨rfl,b2⟩))
      go_ret2
      exact ⟨rfl,b1.trans (b2.mono b1.size)⟩
  | range =>
    have hr:a3f s.data.toList=none:=by simp only [a3f,h]
    rw [hr]
    obtain ⟨tp,p,hv⟩:=hw.rng
    go_enter Tryz.func90,Tryz.ntmps90
    go_wp2_with (go_at_call 119;refine (Tryz.strconv_Atoi_range_var s hs h tp p _ hv).mono ?_;rintro e W1 ⟨N,rfl,-,-,hb⟩)
    go_ret2
    exact ⟨rfl,hb⟩
  | _ =>
    have hr:a3f s.data.toList=none:=by simp only [a3f,h]
    rw [hr]
    obtain ⟨tp,p,hv⟩:=hw.syn
    go_enter Tryz.func90,Tryz.ntmps90
    go_wp2_with (go_at_call 119;refine (Tryz.strconv_Atoi_syntax_var s hs h tp p _ hv).mono ?_;rintro e W1 ⟨N,rfl,-,-,hb⟩)
    go_ret2
    exact ⟨rfl,hb⟩
theorem b9Y (wr:World) (b:UInt8) (i:Int) (hi:i=(b.toNat:Int)):Sem.run Tryz.prog (convert 60 9 (Value.slice (some ⟨wr.heap.size,0,none⟩) 1 1)) (wr.alloc (Obj.cells #[Value.int IntKind.u8 i] 5))=.ok (.string ⟨#[b]⟩) (wr.alloc (Obj.cells #[Value.int IntKind.u8 i] 5)):=by
 subst hi
 exact run_convert_bytes_back _ 60 9 5 ⟨wr.heap.size,0,none⟩ 1 [b] Tryz.underlying60 Tryz.underlying5 Tryz.underlying9 (fun j hj=>by
  have:j=0:=by simpa using hj
  subst this
  show (wr.alloc _).cell? ⟨wr.heap.size,0+0,none⟩=_
  rw [World.cell?_alloc_mark];rfl)
set_option maxRecDepth 100000 in
theorem b9q (x0:Nat) (hx:x0 < 18446744073709551616) (w:World) :
  Calls Tryz.prog 75 #[.int .u64 x0] w fun e w'=>e=.returned (.string ⟨(decDigits x0).toArray⟩)∧Below w.heap.size w w':=by
 go_enter Tryz.func75,Tryz.ntmps75
 go_wp2
 go_loopw [0,3,4] (fun xv sv iv wr=>∃ x k l,xv=.int .u64 (x:Nat)∧sv=.string ⟨(l:List UInt8).toArray⟩∧iv=.int .i64 (k:Nat)∧a9C x0 x k l∧x < 18446744073709551616∧k+a4M x≤21∧l.length=k∧Below w.heap.size w wr) (fun xv _ iv _=>2 * (intOf xv).toNat+(1 - (intOf iv).toNat))
 case atStart=>exact ⟨x0,0,[],rfl,rfl,rfl,.inl ⟨rfl,rfl,rfl⟩,hx,by have:=b5y hx;omega,rfl,Below.refl _ _⟩
 case round =>
  obtain ⟨x,k,l,rfl,rfl,rfl,hI,hx1,hk,hl,hb⟩:=hrel
  by_cases hgo:k=0∨0 < x
  ·have hI2:=b3w hI hgo
   have hL:a4M (x / 10)+(k+1)≤21:=by
    rcases Nat.eq_zero_or_pos x with h0 | h0
    ·subst h0;simp [a4M] at *;omega
    ·have:=b1c x h0;omega
   obtain ⟨a,ha⟩:∃ a:Int,(x:Int)=a:=⟨_,rfl⟩
   have w1:IntKind.u64.wrap (48+a % 10)=48+a % 10:=by rw [IntKind.wrap_u64];omega
   have w2:IntKind.u8.wrap (48+a % 10)=48+a % 10:=by rw [IntKind.wrap_u8];omega
   have hnl:¬ 9223372036854775807 < 1+l.length:=by omega
   have a0:0≤a:=by omega
   have hcv:=b9Y wr (UInt8.ofNat (48+x % 10)) (48+a % 10) (by rw [a3C _ (Nat.mod_lt x (by omega))];omega)
   obtain ⟨c,hc⟩:∃ c,UInt8.ofNat (48+x % 10)=c:=⟨_,rfl⟩
   rw [hc] at hcv hI2
   have H:=Lib.hid (And.intro hI2 (And.intro hL (And.intro ha (And.intro hx1 (And.intro hk (And.intro hl hb))))))
   have hfin:∀ (i j:Int),i=(k:Int)+1→j=(k:Int)→(∃ x k l_1,Value.int IntKind.u64 (IntKind.u64.wrap (a.tdiv 10))=Value.int IntKind.u64 ((x:Nat):Int)∧Value.string ({ data:=#[c] }++{ data:=l.toArray })=Value.string { data:=(l_1:List UInt8).toArray }∧Value.int IntKind.i64 i=Value.int IntKind.i64 ((k:Nat):Int)∧a9C x0 x k l_1∧x < 18446744073709551616∧k+a4M x≤21∧l_1.length=k∧Below w.heap.size w (wr.alloc (Obj.cells #[Value.int IntKind.u8 (48+a % 10)] 5)))∧2 * (RowKit.intOf (Value.int IntKind.u64 (IntKind.u64.wrap (a.tdiv 10)))).toNat+(1 - (RowKit.intOf (Value.int IntKind.i64 i)).toNat) < 2 * (RowKit.intOf (Value.int IntKind.u64 a)).toNat+(1 - (RowKit.intOf (Value.int IntKind.i64 j)).toNat):=by
    rintro i j rfl rfl
    have e1:IntKind.u64.wrap (a.tdiv 10)=((x / 10:Nat):Int):=by rw [Int.tdiv_eq_ediv_of_nonneg a0,IntKind.wrap_u64];omega
    rw [e1]
    refine ⟨⟨x / 10,k+1,c::l,rfl,?_,by simp,hI2,by omega,by omega,by simp;omega,hb.alloc hb.size _⟩,?_⟩
    ·have:(⟨#[c]⟩++⟨l.toArray⟩:ByteArray).data=(c::l).toArray:=by
      apply Array.ext'
      rw [ByteArray.data_append,Array.toList_append]
      simp
     exact congrArg Value.string (by
      have h2:(⟨#[c]⟩++⟨l.toArray⟩:ByteArray)=⟨(⟨#[c]⟩++⟨l.toArray⟩:ByteArray).data⟩:=rfl
      rw [h2,this])
    ·simp only [RowKit.intOf];omega
   rw [ha]
   rcases Nat.eq_zero_or_pos k with h0 | h0
   ·have HF:=Lib.hid hfin
    clear hI2 hL hx1 hk hl hgo hI hx ha hc hfin
    subst h0
    go_wp2
    exact HF.out _ _ rfl rfl
   ·have hx0:0 < a:=by omega
    have hk0:decide ((k:Int)=0)=false:=by simp;omega
    have hk1:IntKind.i64.wrap ((k:Int)+1)=(k:Int)+1:=by rw [IntKind.wrap_i64];omega
    have HF:=Lib.hid hfin
    clear hI2 hL hx1 hk hl hgo hI hx ha hc hfin
    go_wp2
    exact HF.out _ _ rfl rfl
  ·have hl2:=b5F hI hgo
   have h0:x=0:=by omega
   have hk1:0 < k:=by omega
   have hk2:¬ k=0:=by omega
   subst h0
   subst hl2
   clear hI hk hx hx1 hgo
   go_wp2
   go_ret
   exact ⟨rfl,hb⟩
end Go.Proofs.YtjdmfohncgkdoaaGreatDoor
namespace Go.Proofs.YtjdmfohncgkdoaaGreatDoor
set_option linter.unusedSimpArgs false
set_option linter.unusedVariables false
def bz (s:List UInt8) (i:Nat):Int:=if i < s.length then ((s.getD i 0).toNat:Int) else 0
def smallZ (x:Int):Bool:=decide (97≤x)&&decide (x≤122)
def a0W (x:Int):Bool:=decide (48≤x)&&decide (x≤57)
theorem a3R {s:List UInt8} {i:Nat} (h:i < s.length):bz s i=((s.getD i 0).toNat:Int):=by unfold bz;rw [if_pos h]
theorem a6h {s:List UInt8} {i:Nat} (h:s.length≤i):bz s i=0:=by unfold bz;rw [if_neg (by omega)]
theorem a4o {s:List UInt8} {i:Nat} (h:bz s i≠0):i < s.length:=by
 rcases Nat.lt_or_ge i s.length with h1 | h1
 ·exact h1
 ·exact absurd (a6h h1) h
theorem a2e {x:Int}:a0W x=true↔48≤x∧x≤57:=by simp [a0W]
theorem b6M {x:Int}:smallZ x=true↔97≤x∧x≤122:=by simp [smallZ]
theorem a2s {s:List UInt8} {i:Nat} (h:a0W (bz s i)=true):i < s.length:=a4o (by have:=a2e.1 h;omega)
theorem a7F {s:List UInt8} {i:Nat} (h:smallZ (bz s i)=true):i < s.length:=a4o (by have:=b6M.1 h;omega)
def a4S (s:List UInt8) (i:Nat):Option Int×Nat :=
 if a0W (bz s i)=true then
  if a0W (bz s (i+1))=true then
   if bz s i=48 then (none,i+1)
   else if a0W (bz s (i+2))=true then (none,i+2)
   else (some (10 * (bz s i - 48)+(bz s (i+1) - 48)),i+2)
  else (some (bz s i - 48),i+1)
 else (none,i)
def a1B (s:List UInt8) (p:Nat):Int×Int:=if s.length≤p then ((s.length:Int),5) else ((p:Int),2)
theorem b4w {s:List UInt8} {p:Nat} (h:p < s.length):a1B s p=((p:Int),2):=by unfold a1B;rw [if_neg (by omega)]
def numR (s:List UInt8) (i:Nat) (low:Int):Except (Int×Int) (Int×Nat) :=
 match a4S s i with
 | (none,p)=>.error (a1B s p)
 | (some n,q)=>if n < low∨20 < n then .error ((i:Int),3) else .ok (n,q)
structure Sg where
 kind:Int
 at_:Int
 low:Int
 high:Int
 name:List UInt8
 deriving DecidableEq
def a2K (s:List UInt8) (i:Nat):Except (Int×Int) (Sg×Nat) :=
  match numR s (i+1) 0 with
  | .error e=>.error e
  | .ok (n, p) =>
    if bz s p=44 then
      if bz s (p+1)=125 then .ok (⟨5,i,n,-1,[]⟩,p+2)
      else match numR s (p+1) (if 1 > n then 1 else n) with
        | .error e=>.error e
        | .ok (m,q)=>if bz s q=125 then .ok (⟨5,i,n,m,[]⟩,q+1) else .error (a1B s q)
    else if bz s p=125 then (if n=0 then .error (((i+1:Nat):Int),3) else .ok (⟨5,i,n,n,[]⟩,p+1))
    else .error (a1B s p)
def alnumZ (x:Int):Bool:=smallZ x||a0W x
def a7A (s:List UInt8) (i:Nat):Nat→Nat
 | 0=>0
 | f+1=>if alnumZ (bz s i)=true then a7A s (i+1) f+1 else 0
def a9Z (s:List UInt8) (i:Nat):Except (Int×Int) (Sg×Nat) :=
 if a7A s i 13=13 then .error (((i+12:Nat):Int),2) else .ok (⟨1,i,0,0,(s.drop i).take (a7A s i 13)⟩,i+a7A s i 13)
def a3Q (s:List UInt8) (i:Nat):Except (Int×Int) (Sg×Nat) :=
 if smallZ (bz s i)=true then a9Z s i
 else if bz s i=123 then a2K s i
 else if bz s i=40 then .ok (⟨2,i,0,0,[]⟩,i+1)
 else if bz s i=41 then .ok (⟨3,i,0,0,[]⟩,i+1)
 else if bz s i=124 then .ok (⟨4,i,0,0,[]⟩,i+1)
 else if bz s i=42 then .ok (⟨5,i,0,-1,[]⟩,i+1)
 else if bz s i=43 then .ok (⟨5,i,1,-1,[]⟩,i+1)
 else if bz s i=63 then .ok (⟨5,i,0,1,[]⟩,i+1)
 else .error (a1B s i)
def a4P (x:Int):Bool:=smallZ x||decide (x=40)||decide (x=41)||decide (x=124)||decide (x=42)||decide (x=43)||decide (x=63)||decide (x=123)
def b2y (s:List UInt8):Nat→Nat→List Sg→Except (Int×Int) (List Sg)
  | 0,_,out=>.ok out
  | f + 1, i, out =>
    if s.length≤i then .ok out
    else if bz s i=32 then b2y s f (i+1) out
    else if out.length=200 then (if a4P (bz s i)=true then .error ((i:Int),4) else .error (a1B s i))
    else match a3Q s i with
      | .error e=>.error e
      | .ok (x,q)=>b2y s f q (out++[x])
def lexV (s:List UInt8):Except (Int×Int) (List Sg):=b2y s s.length 0 []
theorem c5v:∀ n:Fin 10,(match Go.Lib.atoiAll [UInt8.ofNat (48+n.val)] with | .ok v=>v == (n.val:Int) | _=>false)=true:=by decide +kernel
theorem c5R:∀ n m:Fin 10,(match Go.Lib.atoiAll [UInt8.ofNat (48+n.val),UInt8.ofNat (48+m.val)] with | .ok v=>v == (10 * n.val+m.val:Int) | _=>false)=true:=by decide +kernel
theorem b9c {a:UInt8} (h:a0W (a.toNat:Int)=true):Go.Lib.atoiAll [a]=.ok ((a.toNat:Int) - 48):=by
 have hd:=a2e.1 h
 have e:a=UInt8.ofNat (48+(a.toNat - 48)):=by
  rw [show 48+(a.toNat - 48)=a.toNat by omega];simp
 have:=c5v ⟨a.toNat - 48,by omega⟩
 simp only [←e] at this
 split at this
 ·rename_i v hv
  rw [hv];simp at this;rw [this];congr 1;omega
 ·cases this
theorem b9K {a b:UInt8} (h:a0W (a.toNat:Int)=true) (h':a0W (b.toNat:Int)=true):Go.Lib.atoiAll [a,b]=.ok (10 * ((a.toNat:Int) - 48)+((b.toNat:Int) - 48)):=by
 have hd:=a2e.1 h
 have hd':=a2e.1 h'
 have e:a=UInt8.ofNat (48+(a.toNat - 48)):=by
  rw [show 48+(a.toNat - 48)=a.toNat by omega];simp
 have e':b=UInt8.ofNat (48+(b.toNat - 48)):=by
  rw [show 48+(b.toNat - 48)=b.toNat by omega];simp
 have:=c5R ⟨a.toNat - 48,by omega⟩ ⟨b.toNat - 48,by omega⟩
 simp only [←e,←e'] at this
 split at this
 ·rename_i v hv
  rw [hv];simp at this;rw [this];congr 1;omega
 ·cases this
theorem c2n {s:List UInt8} {i:Nat} (h:i < s.length):(s.drop i).take 1=[s.getD i 0]:=by
 rw [List.getD_eq_getElem?_getD,List.getElem?_eq_getElem h,List.drop_eq_getElem_cons h]
 rfl
theorem c2N {s:List UInt8} {i:Nat} (h:i+1 < s.length):(s.drop i).take 2=[s.getD i 0,s.getD (i+1) 0]:=by
 rw [List.getD_eq_getElem?_getD,List.getD_eq_getElem?_getD,List.getElem?_eq_getElem h,List.getElem?_eq_getElem (by omega:i < s.length),List.drop_eq_getElem_cons (by omega:i < s.length),List.drop_eq_getElem_cons h]
 rfl
theorem c0B {s:List UInt8} {i k:Nat} (hk:k≤2) (h0:0 < k→a0W (bz s i)=true) (h1:1 < k→a0W (bz s (i+1))=true∧bz s i≠48) (hd:a0W (bz s (i+k))=true) (hc:k=2∨(0 < k∧bz s i=48)):a4S s i=(none,i+k):=by
  unfold a4S
  match k,hk,h0,h1,hd,hc with
  | 0,_,_,_,_,hc=>omega
  | 1, _, h0, _, hd, hc =>
    rw [if_pos (h0 (by omega)),if_pos hd,if_pos (by omega)]
  | 2, _, h0, h1, hd, hc =>
    rw [if_pos (h0 (by omega)),if_pos (h1 (by omega)).1,if_neg (h1 (by omega)).2,if_pos hd]
theorem b0d {s:List UInt8} {i:Nat} (hd:a0W (bz s i)=false):a4S s i=(none,i):=by
 unfold a4S
 rw [if_neg (by rw [hd];decide)]
theorem c2V {s:List UInt8} {i k:Nat} (hk:k≤2) (hk0:k≠0) (h0:0 < k→a0W (bz s i)=true) (h1:1 < k→a0W (bz s (i+1))=true∧bz s i≠48) (hd:a0W (bz s (i+k))=false) :
    ∃ v,Go.Lib.atoiAll ((s.drop i).take (i+k - i))=.ok v∧a4S s i=(some v,i+k)∧0≤v∧v≤99:=by
  have hd':¬ a0W (bz s (i+k))=true:=by rw [hd];decide
  match k,hk,hk0,h0,h1,hd' with
  | 1, _, _, h0, _, hd' =>
    have h:=h0 (by omega)
    have hlt:=a2s h
    have hdi:=a2e.1 h
    refine ⟨bz s i - 48,?_,?_,by omega,by omega⟩
    · rw [show i+1 - i=1 by omega,c2n hlt]
      rw [a3R hlt] at h ⊢
      exact b9c h
    · unfold a4S
      rw [if_pos h,if_neg hd']
  | 2, _, _, h0, h1, hd' =>
    have h:=h0 (by omega)
    have h2:=h1 (by omega)
    have hlt:=a2s h2.1
    have hdi:=a2e.1 h
    have hdj:=a2e.1 h2.1
    refine ⟨10 * (bz s i - 48)+(bz s (i+1) - 48),?_,?_,by omega,by omega⟩
    · rw [show i+2 - i=2 by omega,c2N hlt]
      rw [a3R (by omega)] at h ⊢
      have h3:=h2.1
      rw [a3R hlt] at h3 ⊢
      exact b9K h h3
    · unfold a4S
      rw [if_pos h,if_pos h2.1,if_neg h2.2,if_neg hd']
theorem a7K {s:List UInt8} {i p:Nat} {low:Int} (h:a4S s i=(none,p)):numR s i low=.error (a1B s p):=by unfold numR;rw [h]
theorem a7d {s:List UInt8} {i q:Nat} {low v:Int} (h:a4S s i=(some v,q)) (hv:v < low∨20 < v):numR s i low=.error ((i:Int),3):=by unfold numR;rw [h];simp only;rw [if_pos hv]
theorem a8L {s:List UInt8} {i q:Nat} {low v:Int} (h:a4S s i=(some v,q)) (hv:¬ (v < low∨20 < v)):numR s i low=.ok (v,q):=by unfold numR;rw [h];simp only;rw [if_neg hv]
theorem a5Y {s:List UInt8} {i q:Nat} {o:Option Int} (hi:i≤s.length) (h:a4S s i=(o,q)):q≤s.length∧i≤q∧(∀ v,o=some v→i < q∧0≤v):=by
 unfold a4S at h
 split at h
 ·rename_i h1
  have:=a2s h1
  have d1:=a2e.1 h1
  split at h
  ·rename_i h2
   have:=a2s h2
   have d2:=a2e.1 h2
   split at h
   ·injection h with h h';subst h;subst h';exact ⟨by omega,by omega,fun v hv=>by cases hv⟩
   ·split at h
    ·rename_i h3
     have:=a2s h3
     injection h with h h';subst h;subst h';exact ⟨by omega,by omega,fun v hv=>by cases hv⟩
    ·injection h with h h';subst h;subst h';exact ⟨by omega,by omega,fun v hv=>by injection hv with hv;omega⟩
  ·injection h with h h';subst h;subst h';exact ⟨by omega,by omega,fun v hv=>by injection hv with hv;omega⟩
 ·injection h with h h';subst h;subst h';exact ⟨by omega,by omega,fun v hv=>by cases hv⟩
theorem a9Y {s:List UInt8} {i q:Nat} {low v:Int} (hi:i≤s.length) (h:numR s i low=.ok (v,q)):q≤s.length∧i < q∧low≤v∧v≤20:=by
 unfold numR at h
 split at h
 ·cases h
 ·rename_i n q' hn
  split at h
  ·cases h
  ·rename_i hv
   injection h with h;injection h with h1 h2;subst h1;subst h2
   have:=a5Y hi hn
   have h3:=this.2.2 _ rfl
   refine ⟨this.1,h3.1,?_,?_⟩ <;> omega
theorem b9o {s:List UInt8} {i k:Nat} (hk:k≤2) (h0:0 < k→a0W (bz s i)=true) (h1:1 < k→a0W (bz s (i+1))=true∧bz s i≠48) (hd:a0W (bz s (i+k))=true) (hc:¬ (k=2∨(0 < k∧bz s i=48))) :
  k+1≤2∧i+(k+1)≤s.length∧(0 < k+1→a0W (bz s i)=true)∧(1 < k+1→a0W (bz s (i+1))=true∧bz s i≠48):=by
 have:=a2s hd
 have hk2:k < 2:=by omega
 match k,hk2,h0,h1,hd,hc with
 | 0,_,h0,h1,hd,hc=>exact ⟨by omega,by omega,fun _=>hd,fun h=>absurd h (by omega)⟩
 | 1,_,h0,h1,hd,hc=>exact ⟨by omega,by omega,fun _=>h0 (by omega),fun _=>⟨hd,fun h=>hc (.inr ⟨by omega,h⟩)⟩⟩
theorem b2a {s:List UInt8}:∀ {f i k:Nat},k≤f→(∀ j,j < k→alnumZ (bz s (i+j))=true)→(k < f→alnumZ (bz s (i+k))=false)→a7A s i f=k
  | 0,i,k,hk,_,_=>by simp [a7A];omega
  | f + 1, i, 0, _, _, h2 => by
    have:=h2 (by omega)
    rw [Nat.add_zero] at this
    simp [a7A,this]
  | f + 1, i, k + 1, hk, h1, h2 => by
    have h0:=h1 0 (by omega)
    rw [Nat.add_zero] at h0
    have:=b2a (s:=s) (f:=f) (i:=i+1) (k:=k) (by omega) (fun j hj=>by rw [show i+1+j=i+(j+1) by omega];exact h1 (j+1) (by omega)) (fun hkf=>by rw [show i+1+k=i+(k+1) by omega];exact h2 (by omega))
    simp [a7A,h0,this]
theorem b6Z {s:List UInt8} {i:Nat} (h:∀ j,j < 13→alnumZ (bz s (i+j))=true):a9Z s i=.error (((i+12:Nat):Int),2):=by
 unfold a9Z
 rw [if_pos (b2a (Nat.le_refl _) h (fun h=>absurd h (by omega)))]
theorem b6A {s:List UInt8} {i k:Nat} (hk:k≤12) (h:∀ j,j < k→alnumZ (bz s (i+j))=true) (h2:alnumZ (bz s (i+k))=false):a9Z s i=.ok (⟨1,i,0,0,(s.drop i).take (i+k - i)⟩,i+k):=by
 unfold a9Z
 have:=b2a (f:=13) (by omega) h (fun _=>h2)
 rw [this,if_neg (by omega),show i+k - i=k by omega]
def b6m (k:Nat):Int:=match k with | 0=>40 | 1=>41 | 2=>124 | 3=>42 | 4=>43 | _=>63
theorem b7s (k:Nat):40≤b6m k∧b6m k≤124:=by
 unfold b6m;split <;> omega
theorem b9p {s:List UInt8} {i:Nat} (h0:smallZ (bz s i)=false) (h1:bz s i≠123) (h:∀ j,j < 6→bz s i≠b6m j):a3Q s i=.error (a1B s i):=by
 unfold a3Q
 rw [if_neg (by rw [h0];decide),if_neg h1,if_neg (show ¬ bz s i=40 from h 0 (by omega)),if_neg (show ¬ bz s i=41 from h 1 (by omega)),if_neg (show ¬ bz s i=124 from h 2 (by omega)),if_neg (show ¬ bz s i=42 from h 3 (by omega)),if_neg (show ¬ bz s i=43 from h 4 (by omega)),if_neg (show ¬ bz s i=63 from h 5 (by omega))]
theorem c5f {s:List UInt8} {i:Nat} (h:bz s i=42):a3Q s i=.ok (⟨5,i,0,-1,[]⟩,i+1):=by
 unfold a3Q;rw [h];rfl
theorem c4r {s:List UInt8} {i:Nat} (h:bz s i=43):a3Q s i=.ok (⟨5,i,1,-1,[]⟩,i+1):=by
 unfold a3Q;rw [h];rfl
theorem c4z {s:List UInt8} {i:Nat} (h:bz s i=63):a3Q s i=.ok (⟨5,i,0,1,[]⟩,i+1):=by
 unfold a3Q;rw [h];rfl
theorem c2O {s:List UInt8} {i k:Nat} (hk:k < 6) (h:bz s i=b6m k) (h1:b6m k≠42) (h2:b6m k≠43) (h3:b6m k≠63):a3Q s i=.ok (⟨2+k,i,0,0,[]⟩,i+1):=by
 match k,hk,h,h1,h2,h3 with
 | 0,_,h,_,_,_=>unfold a3Q;rw [h];rfl
 | 1,_,h,_,_,_=>unfold a3Q;rw [h];rfl
 | 2,_,h,_,_,_=>unfold a3Q;rw [h];rfl
 | 3,_,_,h,_,_=>exact absurd rfl h
 | 4,_,_,_,h,_=>exact absurd rfl h
 | 5,_,_,_,_,h=>exact absurd rfl h
theorem b3q {s:List UInt8}:∀ {f i:Nat},i≤s.length→i+a7A s i f≤s.length
  | 0,i,h=>by simp [a7A];exact h
  | f + 1, i, h => by
    unfold a7A
    split
    · rename_i ha
      have hlt:i < s.length:=a4o (fun h0=>by rw [h0] at ha;exact absurd ha (by decide))
      have:=b3q (s:=s) (f:=f) (i:=i+1) hlt
      omega
    · omega
theorem a6O {s:List UInt8} {i q:Nat} {x:Sg} (h:a3Q s i=.ok (x,q)):i < q∧q≤s.length:=by
 have key:∀ {c:Int} {y:Sg},bz s i=c→c≠0→(Except.ok (y,i+1):Except (Int×Int) (Sg×Nat))=.ok (x,q)→i < q∧q≤s.length:=by
  intro c y h1 h2 h3
  injection h3 with h3;injection h3 with _ h3
  have:=a4o (s:=s) (i:=i) (by rw [h1];exact h2)
  omega
 unfold a3Q at h
 split at h
 ·rename_i hs
  have hlt:=a7F hs
  unfold a9Z at h
  split at h
  ·cases h
  ·injection h with h;injection h with _ h
   have h1:0 < a7A s i 13:=by
    have:alnumZ (bz s i)=true:=by unfold alnumZ;rw [hs];rfl
    unfold a7A;rw [if_pos this];omega
   have:=b3q (s:=s) (f:=13) (i:=i) (by omega)
   omega
 split at h
 ·rename_i hc
  have hlt:=a4o (s:=s) (i:=i) (by omega)
  unfold a2K at h
  split at h
  ·cases h
  ·rename_i n p hn
   have hp:=a9Y (by omega) hn
   split at h
   ·rename_i h44
    have hl2:=a4o (s:=s) (i:=p) (by omega)
    split at h
    ·rename_i h125
     have:=a4o (s:=s) (i:=p+1) (by omega)
     injection h with h;injection h with _ h;omega
    ·split at h
     ·cases h
     ·rename_i m q' hm
      have hq:=a9Y (by omega) hm
      split at h
      ·rename_i h125
       have:=a4o (s:=s) (i:=q') (by omega)
       injection h with h;injection h with _ h;omega
      ·cases h
   ·split at h
    ·rename_i h125
     have:=a4o (s:=s) (i:=p) (by omega)
     split at h
     ·cases h
     ·injection h with h;injection h with _ h;omega
    ·cases h
 split at h
 ·rename_i hc;exact key hc (by decide) h
 split at h
 ·rename_i hc;exact key hc (by decide) h
 split at h
 ·rename_i hc;exact key hc (by decide) h
 split at h
 ·rename_i hc;exact key hc (by decide) h
 split at h
 ·rename_i hc;exact key hc (by decide) h
 split at h
 ·rename_i hc;exact key hc (by decide) h
 cases h
theorem a6g {s:List UInt8}:∀ {f f' i:Nat} {out:List Sg},s.length - i≤f→s.length - i≤f'→b2y s f i out=b2y s f' i out
  | 0,0,_,_,_,_=>rfl
  | 0,f'+1,i,out,h,h'=>by simp only [b2y];rw [if_pos (by omega)]
  | f+1,0,i,out,h,h'=>by simp only [b2y];rw [if_pos (by omega)]
  | f + 1, f' + 1, i, out, h, h' => by
    simp only [b2y]
    by_cases h1:s.length≤i
    · rw [if_pos h1,if_pos h1]
    · rw [if_neg h1,if_neg h1]
      by_cases h2:bz s i=32
      · rw [if_pos h2,if_pos h2];exact a6g (by omega) (by omega)
      · rw [if_neg h2,if_neg h2]
        by_cases h3:out.length=200
        · rw [if_pos h3,if_pos h3]
        · rw [if_neg h3,if_neg h3]
          cases hx:a3Q s i with
          | error e=>rfl
          | ok y =>
            obtain ⟨x,q⟩:=y
            have:=a6O hx
            exact a6g (by omega) (by omega)
def a4D (s:List UInt8) (i:Nat) (out:List Sg):Except (Int×Int) (List Sg):=b2y s (s.length - i) i out
theorem b3j (s:List UInt8):a4D s 0 []=lexV s:=rfl
theorem a7Z {s:List UInt8} {i:Nat} {out:List Sg} (h:s.length≤i):a4D s i out=.ok out:=by
 unfold a4D;rw [show s.length - i=0 by omega];rfl
theorem a4l {s:List UInt8} {i:Nat} {out:List Sg} (h:i < s.length):a4D s i out=if bz s i=32 then a4D s (i+1) out
    else if out.length=200 then (if a4P (bz s i)=true then .error ((i:Int),4) else .error (a1B s i))
    else match a3Q s i with
      | .error e=>.error e
      | .ok (x,q)=>a4D s q (out++[x]):=by
  unfold a4D
  rw [show s.length - i=(s.length - i - 1)+1 by omega]
  simp only [b2y]
  rw [if_neg (by omega)]
  by_cases h2:bz s i=32
  · rw [if_pos h2,if_pos h2];exact a6g (by omega) (by omega)
  · rw [if_neg h2,if_neg h2]
    by_cases h3:out.length=200
    · rw [if_pos h3,if_pos h3]
    · rw [if_neg h3,if_neg h3]
      cases hx:a3Q s i with
      | error e=>rfl
      | ok y =>
        obtain ⟨x,q⟩:=y
        have:=a6O hx
        exact a6g (by omega) (by omega)
theorem b6F:∀ n:Fin 256,(decide (Go.Lib.indexByte [40,41,124,42,43,63,123] (UInt8.ofNat n.val) < 0))=!(decide ((n.val:Int)=40)||decide ((n.val:Int)=41)||decide ((n.val:Int)=124)||decide ((n.val:Int)=42)||decide ((n.val:Int)=43)||decide ((n.val:Int)=63)||decide ((n.val:Int)=123)):=by decide +kernel
theorem b1d (c:UInt8):(!smallZ (c.toNat:Int)&&decide (Go.Lib.indexByte [40,41,124,42,43,63,123] c < 0))=!a4P (c.toNat:Int):=by
 have:=b6F ⟨c.toNat,c.toNat_lt⟩
 simp only [UInt8.ofNat_toNat] at this
 rw [this]
 unfold a4P
 simp only [Bool.not_or,Bool.and_assoc]
theorem b0H {s:List UInt8} {i:Nat} {out:List Sg} (h:i < s.length) (h0:bz s i=32):a4D s i out=a4D s (i+1) out:=by
 rw [a4l h,if_pos h0]
theorem b1y {s:List UInt8} {i:Nat} {out:List Sg} (h:i < s.length) (h0:¬ bz s i=32) (h1:out.length=200) (h2:a4P (bz s i)=false):a4D s i out=.error (a1B s i):=by
 rw [a4l h,if_neg h0,if_pos h1,if_neg (by rw [h2];decide)]
theorem a9J {s:List UInt8} {i:Nat} {out:List Sg} (h:i < s.length) (h0:¬ bz s i=32) (h1:out.length=200) (h2:a4P (bz s i)=true):a4D s i out=.error ((i:Int),4):=by
 rw [a4l h,if_neg h0,if_pos h1,if_pos h2]
theorem b2d {s:List UInt8} {i:Nat} {out:List Sg} {e:Int×Int} (h:i < s.length) (h0:¬ bz s i=32) (h1:¬ out.length=200) (h2:a3Q s i=.error e):a4D s i out=.error e:=by
 rw [a4l h,if_neg h0,if_neg h1,h2]
theorem a9P {s:List UInt8} {i q:Nat} {x:Sg} {out:List Sg} (h:i < s.length) (h0:¬ bz s i=32) (h1:¬ out.length=200) (h2:a3Q s i=.ok (x,q)):a4D s i out=a4D s q (out++[x]):=by
 rw [a4l h,if_neg h0,if_neg h1,h2]
theorem b1O (s:List UInt8) (i:Nat):a0W (bz s i)=(decide ((i:Int) < s.length)&&a0W ((s.getD i 0).toNat:Int)):=by
 rcases Nat.lt_or_ge i s.length with h | h
 ·rw [a3R h,show decide ((i:Int) < s.length)=true from decide_eq_true (by omega),Bool.true_and]
 ·rw [a6h h,show decide ((i:Int) < s.length)=false from decide_eq_false (by omega),Bool.false_and];decide
theorem b9F (s:List UInt8) (i:Nat):smallZ (bz s i)=(decide ((i:Int) < s.length)&&smallZ ((s.getD i 0).toNat:Int)):=by
 rcases Nat.lt_or_ge i s.length with h | h
 ·rw [a3R h,show decide ((i:Int) < s.length)=true from decide_eq_true (by omega),Bool.true_and]
 ·rw [a6h h,show decide ((i:Int) < s.length)=false from decide_eq_false (by omega),Bool.false_and];decide
theorem b7O (s:List UInt8) (i:Nat):(decide ((s.length:Int)≤i)||!a0W ((s.getD i 0).toNat:Int))=!a0W (bz s i):=by
 rcases Nat.lt_or_ge i s.length with h | h
 ·rw [a3R h,show decide ((s.length:Int)≤i)=false from decide_eq_false (by omega),Bool.false_or]
 ·rw [a6h h,show decide ((s.length:Int)≤i)=true from decide_eq_true (by omega),Bool.true_or];decide
theorem b8u (s:List UInt8) (i:Nat) {c:Int} (hc:c≠0):(decide ((i:Int) < s.length)&&((s.getD i 0).toNat:Int) == c)=decide (bz s i=c):=by
 rcases Nat.lt_or_ge i s.length with h | h
 ·rw [a3R h,show decide ((i:Int) < s.length)=true from decide_eq_true (by omega),Bool.true_and];rfl
 ·rw [a6h h,show decide ((i:Int) < s.length)=false from decide_eq_false (by omega),Bool.false_and]
  exact (decide_eq_false (fun h=>hc h.symm)).symm
theorem a8o (s:List UInt8) (i:Nat) {c:Int} (hc:c≠0):(decide ((s.length:Int)≤i)||((s.getD i 0).toNat:Int) != c)=!decide (bz s i=c):=by
 rcases Nat.lt_or_ge i s.length with h | h
 ·rw [a3R h,show decide ((s.length:Int)≤i)=false from decide_eq_false (by omega),Bool.false_or];rfl
 ·rw [a6h h,show decide ((s.length:Int)≤i)=true from decide_eq_true (by omega),Bool.true_or]
  rw [decide_eq_false (fun h=>hc h.symm)];rfl
def a2d (s:List UInt8) (i:Nat):Sg×Int×Int :=
  match a4S s (i+1) with
  | (none,p)=>(⟨5,i,0,0,[]⟩,a1B s p)
  | (some n, p) =>
    if 20 < n∨(n=0∧bz s p=125) then (⟨5,i,0,0,[]⟩,((i+1:Nat):Int),3)
    else if bz s p=44 then
      if bz s (p+1)=125 then (⟨5,i,n,-1,[]⟩,((p+2:Nat):Int),0)
      else match a4S s (p+1) with
        | (none,q)=>(⟨5,i,n,-1,[]⟩,a1B s q)
        | (some m, q) => if m < 1 ∨ 20 < m ∨ m < n then (⟨5, i, n, -1, []⟩, ((p + 1 : Nat) : Int), 3)
          else if bz s q=125 then (⟨5,i,n,m,[]⟩,((q+1:Nat):Int),0) else (⟨5,i,n,m,[]⟩,a1B s q)
    else if bz s p=125 then (⟨5,i,n,n,[]⟩,((p+1:Nat):Int),0)
    else (⟨5,i,n,n,[]⟩,a1B s p)
def sgZ:Sg:=⟨0,0,0,0,[]⟩
def b9u (s:List UInt8) (i:Nat):Sg×Int×Int :=
 if a7A s i 13=13 then (sgZ,((i+12:Nat):Int),2) else (⟨1,i,0,0,(s.drop i).take (a7A s i 13)⟩,((i+a7A s i 13:Nat):Int),0)
def a7s (s:List UInt8) (i:Nat):Sg×Int×Int :=
 if smallZ (bz s i)=true then b9u s i
 else if bz s i=40 then (⟨2,i,0,0,[]⟩,((i+1:Nat):Int),0)
 else if bz s i=41 then (⟨3,i,0,0,[]⟩,((i+1:Nat):Int),0)
 else if bz s i=124 then (⟨4,i,0,0,[]⟩,((i+1:Nat):Int),0)
 else if bz s i=42 then (⟨5,i,0,-1,[]⟩,((i+1:Nat):Int),0)
 else if bz s i=43 then (⟨5,i,1,-1,[]⟩,((i+1:Nat):Int),0)
 else if bz s i=63 then (⟨5,i,0,1,[]⟩,((i+1:Nat):Int),0)
 else if bz s i=123 then a2d s i
 else (sgZ,(i:Int),2)
def c4s (r:Except (Int×Int) (Sg×Nat)) (f:Sg×Int×Int):Prop:=match r with
 | .ok (x,q)=>f=(x,(q:Int),0)
 | .error e=>f.2=e∧e.2≠0
theorem a6u (s:List UInt8) (p:Nat):(a1B s p).2≠0:=by unfold a1B;split <;> simp
theorem b5G (s:List UInt8) (i:Nat) (hi:i < s.length):c4s (a2K s i) (a2d s i):=by
  unfold a2K a2d
  cases hn:a4S s (i+1) with
  | mk o p =>
    cases o with
    | none=>rw [a7K hn];exact ⟨rfl,a6u s p⟩
    | some n =>
      have h0:=(a5Y (by omega) hn).2.2 n rfl
      by_cases h20:20 < n
      · rw [a7d hn (.inr h20)]
        simp only
        rw [if_pos (.inl h20)]
        exact ⟨rfl,by simp⟩
      · rw [a8L hn (by omega)]
        simp only
        by_cases h44:bz s p=44
        · rw [if_pos h44,if_neg (show ¬ (20 < n∨n=0∧bz s p=125) by omega),if_pos h44]
          by_cases h125:bz s (p+1)=125
          · rw [if_pos h125,if_pos h125];rfl
          · rw [if_neg h125,if_neg h125]
            have hlt:=a4o (s:=s) (i:=p) (by omega)
            cases hm:a4S s (p+1) with
            | mk o2 q =>
              cases o2 with
              | none=>rw [a7K hm];exact ⟨rfl,a6u s q⟩
              | some m =>
                simp only
                by_cases hr:m < (if 1 > n then 1 else n)∨20 < m
                · rw [a7d hm hr]
                  rw [if_pos (show m < 1∨20 < m∨m < n by split at hr <;> omega)]
                  exact ⟨rfl,by simp⟩
                · rw [a8L hm hr]
                  rw [if_neg (show ¬ (m < 1∨20 < m∨m < n) by split at hr <;> omega)]
                  simp only
                  by_cases h5:bz s q=125
                  · rw [if_pos h5,if_pos h5];rfl
                  · rw [if_neg h5,if_neg h5];exact ⟨rfl,a6u s q⟩
        · rw [if_neg h44]
          by_cases h125:bz s p=125
          · by_cases hz:n=0
            · rw [if_pos h125,if_pos hz,if_pos (.inr ⟨hz,h125⟩)];exact ⟨rfl,by simp⟩
            · rw [if_pos h125,if_neg hz,if_neg (show ¬ (20 < n∨n=0∧bz s p=125) by omega),if_neg h44,if_pos h125];rfl
          · rw [if_neg h125,if_neg (show ¬ (20 < n∨n=0∧bz s p=125) by omega),if_neg h44,if_neg h125];exact ⟨rfl,a6u s p⟩
theorem b5d (s:List UInt8) (i:Nat) (hi:i < s.length):c4s (a3Q s i) (a7s s i):=by
 unfold a3Q a7s
 by_cases h:smallZ (bz s i)=true
 ·rw [if_pos h,if_pos h]
  unfold a9Z b9u
  split
  ·exact ⟨rfl,by simp⟩
  ·rfl
 rw [if_neg h,if_neg h]
 by_cases h1:bz s i=123
 ·rw [if_pos h1,if_neg (show ¬ bz s i=40 by omega),if_neg (show ¬ bz s i=41 by omega),if_neg (show ¬ bz s i=124 by omega),if_neg (show ¬ bz s i=42 by omega),if_neg (show ¬ bz s i=43 by omega),if_neg (show ¬ bz s i=63 by omega),if_pos h1]
  exact b5G s i hi
 rw [if_neg h1]
 by_cases h2:bz s i=40
 ·rw [if_pos h2,if_pos h2];rfl
 rw [if_neg h2,if_neg h2]
 by_cases h3:bz s i=41
 ·rw [if_pos h3,if_pos h3];rfl
 rw [if_neg h3,if_neg h3]
 by_cases h4:bz s i=124
 ·rw [if_pos h4,if_pos h4];rfl
 rw [if_neg h4,if_neg h4]
 by_cases h5:bz s i=42
 ·rw [if_pos h5,if_pos h5];rfl
 rw [if_neg h5,if_neg h5]
 by_cases h6:bz s i=43
 ·rw [if_pos h6,if_pos h6];rfl
 rw [if_neg h6,if_neg h6]
 by_cases h7:bz s i=63
 ·rw [if_pos h7,if_pos h7];rfl
 rw [if_neg h7,if_neg h7,if_neg h1]
 rw [b4w hi]
 exact ⟨rfl,by simp⟩
theorem b7p (s:List UInt8) (p:Nat) (n:Int):(decide (20 < n)||((n == 0&&decide ((p:Int) < s.length))&&((s.getD p 0).toNat:Int) == 125))=decide (20 < n∨(n=0∧bz s p=125)):=by
 rw [Bool.and_assoc,b8u s p (by decide),Bool.decide_or,Bool.decide_and]
 rfl
theorem b4K (s:List UInt8) (i:Nat):(decide ((i:Int) < s.length)&&(smallZ ((s.getD i 0).toNat:Int)||a0W ((s.getD i 0).toNat:Int)))=alnumZ (bz s i):=by
 unfold alnumZ
 rw [b9F,b1O,Bool.and_or_distrib_left]
theorem a8n {s:List UInt8} {i:Nat} (h:a4P (bz s i)=false):a3Q s i=.error (a1B s i):=by
 unfold a4P at h
 simp only [Bool.or_eq_false_iff,decide_eq_false_iff_not] at h
 obtain ⟨⟨⟨⟨⟨⟨⟨h0,h1⟩,h2⟩,h3⟩,h4⟩,h5⟩,h6⟩,h7⟩:=h
 unfold a3Q
 rw [if_neg (by rw [h0];decide),if_neg h7,if_neg h1,if_neg h2,if_neg h3,if_neg h4,if_neg h5,if_neg h6]
end Go.Proofs.YtjdmfohncgkdoaaGreatDoor
namespace Go.Proofs.YtjdmfohncgkdoaaGreatDoor
set_option linter.unusedSimpArgs false
set_option linter.unusedVariables false
set_option maxRecDepth 100000
open Go.RowKit
@[reducible] def rdF (s:List UInt8) (i:Nat):Nat→Nat→HV:=fun _ j=>match j with | 0=>a0p s | _=>a0h i
@[reducible] def rdO (g:Nat) (s:List UInt8) (i:Nat):HObj:=⟨g,1,2,174,0,rdF s i⟩
@[reducible] def c3T (e:Int×Int):Nat→HV:=fun j=>match j with | 0=>a0h e.1 | _=>a0h e.2
@[reducible] def a6v (e:Int×Int):HV:=.ifc 170 (.agg 2 (c3T e))
theorem b7a {sh:List (Nat×HObj)} {f f':Nat→HV} (h0:Fz sh (f 0) (f' 0)) (h1:Fz sh (f 1) (f' 1)):Fz sh (.agg 2 f) (.agg 2 f'):=.agg _ _ _ fun i hi=>by
 match i,hi with
 | 0,_=>exact h0
 | 1,_=>exact h1
theorem a1i {sh:List (Nat×HObj)} {f f':Nat→HV} (h0:Fz sh (f 0) (f' 0)) (h1:Fz sh (f 1) (f' 1)) (h2:Fz sh (f 2) (f' 2)) (h3:Fz sh (f 3) (f' 3)) (h4:Fz sh (f 4) (f' 4)):Fz sh (.agg 5 f) (.agg 5 f'):=.agg _ _ _ fun i hi=>by
 match i,hi with
 | 0,_=>exact h0
 | 1,_=>exact h1
 | 2,_=>exact h2
 | 3,_=>exact h3
 | 4,_=>exact h4
instance frz_fault (e:Int×Int):Frz (a6v e):=⟨.ifc _ _ _ (b7a (.imm _) (.imm _))⟩
theorem a1O {kp sh:List (Nat×HObj)} (e:Int×Int):Kz kp sh (a6v e) (a6v e):=.fz _ _ Frz.fz
theorem a4j {kp sh:List (Nat×HObj)} {g i:Nat} {s:List UInt8}:OKz kp sh (rdO g s i) (rdO g s i):=b0T (.fz _ _ (.imm _)) (.fz _ _ (.imm _))
theorem b3z (x:Int):a0q Tryz.prog 106 [.imm (.int .u8 x)] (a0s (smallZ x)):=by
 refine a0m Tryz.func106 rfl kr _ _ _ rfl 9 rfl rfl (fun w F=>?_)
 refine ru 17 ?_
 refine rt1 ?_
 exact Frz.fz
theorem b0B (x:Int):a0q Tryz.prog 152 [.imm (.int .u8 x)] (a0s (a0W x)):=by
 refine a0m Tryz.func152 rfl kr _ _ _ rfl 9 rfl rfl (fun w F=>?_)
 refine ru 17 ?_
 refine rt1 ?_
 exact Frz.fz
theorem a3N (g:Nat) (s:List UInt8) (i:Nat) (hs:s.length≤1000000) (hi:i≤s.length):a5F Tryz.prog 105 [.pt 9001 g 0 0] [(9001,rdO g s i)] (.imm (.int .u8 (bz s i))) [(9001,rdO g s i)]:=by
 intro c
 refine a0v Tryz.func105 rfl kr _ _ _ _ rfl 22 rfl rfl (fun X ok hX=>?_)
 refine ru 20 ?_
 refine wdc (fun hr0 hc0=>?_) (fun hr0 hc0=>?_)
 ·refine ru 16 ?_
  refine fr1 ok hX rw1 (()) (trivial) (by rw [a3R (by simpa using hc0)];exact kza) ?_
  exact ⟨⟨_,rfl,b0T kza kza⟩,trivial⟩
 refine ru 8 ?_
 refine fr1 ok hX rw1 (()) (trivial) (by rw [a6h (by simpa using hc0)];exact kza) ?_
 exact ⟨⟨_,rfl,b0T kza kza⟩,trivial⟩
theorem b1u (c g:Nat) (s:List UInt8) (i:Nat) (p e:Int):a3c Tryz.prog 109 c [.pt 9001 g 0 0,a0h p,a0h e] [(9001,rdO g s i)] (c4G (fun (y:Int×Int) _=>y=(p,e)) a6v (fun _=>[(9001,rdO g s i)])):=by
 refine a0v Tryz.func109 rfl kr _ _ _ _ rfl 10 rfl rfl (fun X ok hX=>?_)
 refine ru 5 ?_
 refine b5x rfl ?_
 exact b2A ok hX (p,e) rfl rfl (.ifc _ _ _ (.fz _ _ (b7a (.imm _) (.imm _)))) ⟨⟨_,rfl,b0T (.fz _ _ (.imm _)) (.fz _ _ (.imm _))⟩,trivial⟩
theorem b2Y (c g:Nat) (s:List UInt8) (i:Nat) (hs:s.length≤1000000) (hi:i≤s.length):a3c Tryz.prog 108 c [.pt 9001 g 0 0] [(9001,rdO g s i)] (c4G (fun (y:Int×Int) _=>y=a1B s i) a6v (fun _=>[(9001,rdO g s i)])):=by
 refine a0v Tryz.func108 rfl kr _ _ _ _ rfl 24 rfl rfl (fun X ok hX=>?_)
 refine ru 15 ?_
 refine wdc (fun hr0 hc0=>?_) (fun hr0 hc0=>?_)
 ·refine ru 6 ?_
  refine a2u (xs:=[_,_,_]) (pre:=[(9001,_)]) (b1u _ _ _ _ _ _) ⟨rfl,⟨rfl,⟨rfl,trivial⟩⟩⟩ (a0g rfl a0e) (fun y c1 hy=>?_)
  refine (a0O ?_)
  exact b2A ok hX y (by rw [hy];unfold a1B;rw [if_pos om,hc0]) rfl (a1O _) ⟨⟨_,rfl,a4j⟩,trivial⟩
 refine ru 8 ?_
 refine a2u (xs:=[_,_,_]) (pre:=[(9001,_)]) (b1u _ _ _ _ _ _) ⟨rfl,⟨rfl,⟨rfl,trivial⟩⟩⟩ (a0g rfl a0e) (fun y c2 hy=>?_)
 refine ?_
 exact b2A ok hX y (by rw [hy];unfold a1B;rw [if_neg om]) rfl (a1O _) ⟨⟨_,rfl,a4j⟩,trivial⟩
theorem a0Y {a b:Int} (h:a=b):Sb (a0h a) (a0h b):=by subst h;exact .refl _
theorem a2X {g ty fl:Nat} {f f':Nat→Nat→HV} (h0:Sb (f 0 0) (f' 0 0)) (h1:Sb (f 0 1) (f' 0 1)) (hfn:fl≤1:=by exact Nat.zero_le _):a5M ⟨g,1,2,ty,fl,f⟩ ⟨g,1,2,ty,fl,f'⟩:=.of (hfn:=hfn) fun i j hi hj=>by
 obtain rfl:i=0:=by omega
 match j,hj with | 0,_=>exact h0 | 1,_=>exact h1
theorem a7i {kp sh:List (Nat×HObj)} {a b:Int} (h:a=b):Kz kp sh (a0h a) (a0h b):=by subst h;exact .fz _ _ (.imm _)
theorem c4K (l:List UInt8) (v:Int) (hl:l.length≤1000000) (h:Lib.atoiAll l=.ok v):a0q Tryz.prog 119 [a0p l] (t2 (a0h v) (.imm .nilIface)):=by
 refine ⟨⟨_,_,Tryz.func119,rfl,by kernel_rfl⟩,fun w F vs hF hr hw=>?_⟩
 obtain ⟨u,rfl,hu⟩:=c0Z hr
 rw [hu.imm_inv]
 refine (Tryz.strconv_Atoi_ok ⟨l.toArray⟩ (by rw [a2J];omega) v h w).mono ?_
 rintro e w' ⟨rfl,hb⟩
 have hb:=b0z hb
 exact ⟨hb,_,F,rfl,fun _ h=>h,fun _ h=>.inl h,fun a ha=>⟨(hF a ha).1,by rw [World.cell?_of_block (hb.block _ (a1a (hF a ha).2))];exact (hF a ha).2⟩,
  .tup _ 2 _ (fun i=>match i with | 0=>.int .i64 v | _=>.nilIface) rfl (fun i hi=>by match i,hi with | 0,_=>rfl | 1,_=>rfl) (fun i hi=>by match i,hi with | 0,_=>exact .imm _ | 1,_=>exact .imm _)⟩
@[reducible] def c6m (g:Nat) (s:List UInt8) (i:Nat) (low:Int):HEnd→List (Nat×HObj)→Nat→Prop :=
 RoP (fun (x:Int×Nat) _=>numR s i low=.ok x) (fun x=>a0h x.1) (fun x=>[(9001,rdO g s x.2)]) (fun (y:(Int×Int)×Nat) _=>numR s i low=.error y.1) (fun y=>a6v y.1) (fun y=>[(9001,rdO g s y.2)])
theorem b4W (c g:Nat) (s:List UInt8) (i:Nat) (low:Int) (hs:s.length≤1000000) (hi:i≤s.length):a3c Tryz.prog 153 c [.pt 9001 g 0 0,a0h low] [(9001,rdO g s i)] (c6m g s i low):=by
 refine a0v Tryz.func153 rfl kr _ _ _ _ rfl 81 rfl rfl (fun X ok hX=>?_)
 refine ru 16 ?_
 refine a0n (α:=Nat) (fun x c=>⟨81,[(0,.v (.pt 9001 g 0 0)),(1,.v (a0h low)),(4,.v (a0h 0)),(5,.v (a0h i))],[(9001,rdO g s (i+x))],c⟩) (fun x=>x≤2∧i+x≤s.length∧(0 < x→a0W (bz s i)=true)∧(1 < x→a0W (bz s (i+1))=true∧bz s i≠48)) (fun x=>3 - x) (0) (by exact ⟨by omega,by omega,fun h=>absurd h om,fun h=>absurd h om⟩) (a0c rfl (Nat.le_refl _) tsa hsa) (fun k c hx NhL1 hL1=>?_)
 (try dsimp only at hx hL1 ⊢)
 obtain ⟨hk,hik,hk0,hk1⟩:=hx
 refine ru 4 ?_
 refine hq_ 13 (a0B (xs:=[_]) (pre:=[(9001,_)]) (a3N g s (i+k) hs hik) ⟨rfl,trivial⟩) rfl rfl (a0g rfl a0e) rfl rfl ?_
 refine cll (b0B _) ?_
 refine ru 2 ?_
 refine wdc (fun hr0 hc0=>?_) (fun hr0 hc0=>?_)
 ·skip
  have hlt:=a2s hc0
  refine ru 32 ?_
  refine wdc (fun hr1 hc1=>?_) (fun hr1 hc1=>?_)
  ·refine ru 2 ?_
   refine a2u (xs:=[_]) (pre:=[(9001,_)]) (b2Y _ g s (i+k) hs hik) ⟨rfl,trivial⟩ (a0g rfl a0e) (fun y c1 hy=>?_)
   refine (a0O (a2j (a0O (a2j (a0O ?_)))))
   exact a2V ok hX (y,i+k) (by rw [hy];exact a7K (c0B hk hk0 hk1 hc0 (by rw [a3R (show i < s.length by omega)];omega))) rfl (a1O _) ⟨⟨_,rfl,a4j⟩,trivial⟩
  refine ru 13 ?_
  exact hL1 (k+1) _ _ (by (try dsimp only);exact b9o hk hk0 hk1 hc0 (by rw [a3R (show i < s.length by omega)];simp only [Bool.and_eq_false_iff,decide_eq_false_iff_not,beq_eq_false_iff_ne] at hc1;omega)) (by (try dsimp only);omega) (a0c rfl (Nat.le_refl _) tsa (a0k.cons rfl (a2X (.refl _) (a0Y om)) a0k.nil))
 refine ru 2 ?_
 refine a0d ?_
 refine ru 13 ?_
 refine wdc (fun hr2 hc2=>?_) (fun hr2 hc2=>?_)
 ·refine ru 2 ?_
  refine a2u (xs:=[_]) (pre:=[(9001,_)]) (b2Y _ g s (i+k) hs hik) ⟨rfl,trivial⟩ (a0g rfl a0e) (fun y c2 hy=>?_)
  refine (a0O ?_)
  obtain rfl:k=0:=om;exact a2V ok hX (y,i+0) (by rw [hy];exact a7K (b0d hc0)) rfl (a1O _) ⟨⟨_,rfl,a4j⟩,trivial⟩
 obtain ⟨v,hv,hnum,hv0,hv1⟩:=c2V hk om hk0 hk1 hc0
 refine ru 14 ?_
 refine clx (c4K _ v (by simp;omega) hv) ?_
 refine ru 19 ?_
 refine wdc (fun hr3 hc3=>?_) (fun hr3 hc3=>?_)
 ·refine ru 3 ?_
  refine a2u (xs:=[_,_,_]) (pre:=[(9001,_)]) (b1u _ _ _ _ _ _) ⟨rfl,⟨rfl,⟨rfl,trivial⟩⟩⟩ (a0g rfl a0e) (fun y c3 hy=>?_)
  refine (a0O ?_)
  exact a2V ok hX (y,i+k) (by rw [hy];exact a7d hnum (by simpa using hc3)) rfl (a1O _) ⟨⟨_,rfl,a4j⟩,trivial⟩
 refine ru 9 ?_
 refine a1F ok hX a3m.two rfl (a0r rfl) [] rfl a0e ((v,i+k)) (a8L hnum (by simpa using hc3)) (by rfl) (by rfl) (kza) ?_
 exact ⟨⟨_,rfl,a4j⟩,trivial⟩
@[reducible] def sgF (x:Sg):Nat→HV:=fun j=>match j with | 0=>a0h x.kind | 1=>a0h x.at_ | 2=>a0h x.low | 3=>a0h x.high | _=>a0p x.name
@[reducible] def sgH (x:Sg):HV:=.agg 5 (sgF x)
@[reducible] def SgP (R:Except (Int×Int) (Sg×Nat)) (g:Nat) (s:List UInt8):HEnd→List (Nat×HObj)→Nat→Prop :=
 RoP (fun (x:Sg×Nat) _=>R=.ok x) (fun x=>sgH x.1) (fun x=>[(9001,rdO g s x.2)]) (fun (y:(Int×Int)×Nat) _=>R=.error y.1) (fun y=>a6v y.1) (fun y=>[(9001,rdO g s y.2)])
theorem a3O {kp sh:List (Nat×HObj)} {f f':Nat→HV} (h0:Kz kp sh (f 0) (f' 0)) (h1:Kz kp sh (f 1) (f' 1)) (h2:Kz kp sh (f 2) (f' 2)) (h3:Kz kp sh (f 3) (f' 3)) (h4:Kz kp sh (f 4) (f' 4)):Kz kp sh (.agg 5 f) (.agg 5 f'):=.agg _ _ _ fun i hi=>by
 match i,hi with
 | 0,_=>exact h0
 | 1,_=>exact h1
 | 2,_=>exact h2
 | 3,_=>exact h3
 | 4,_=>exact h4
theorem a0I {kp sh:List (Nat×HObj)} {v:Value}:Kz kp sh (.imm v) (.imm v):=.fz _ _ (.imm _)
theorem c3c (c g:Nat) (s:List UInt8) (i:Nat) (hs:s.length≤1000000) (hi:i < s.length):a3c Tryz.prog 134 c [.pt 9001 g 0 0] [(9001,rdO g s i)] (SgP (a2K s i) g s):=by
 refine a0v Tryz.func134 rfl kr _ _ _ _ rfl 71 rfl rfl (fun X ok hX=>?_)
 refine ru 29 ?_
 refine (a0R 9001 (rdO g s (i+1)) rfl (by exact a2X (.refl _) (a0Y om))).wp ?_
 refine ru 11 ?_
 refine b2r 22 (xs:=[_,_]) (pre:=[(9001,_)]) (b4W _ g s (i+1) 0 hs om) ⟨rfl,⟨rfl,trivial⟩⟩ (a0g rfl a0e) rfl rfl (fun y c1 hy=>(a0O (a2V ok hX y (by unfold a2K;rw [hy]) rfl (a1O _) ⟨⟨_,rfl,a4j⟩,trivial⟩))) (fun x1 c1 hn=>?_)
 obtain ⟨n,p⟩:=x1
 (try dsimp only)
 refine ru 5 ?_
 have hnp:=a9Y om hn
 refine ru 11 ?_
 refine hq_ 28 (a0B (xs:=[_]) (pre:=[(9001,_)]) (a3N g s p hs hnp.1) ⟨rfl,trivial⟩) rfl rfl (a0g rfl a0e) rfl rfl ?_
 refine ru 3 ?_
 refine wdc (fun hr0 hc0=>?_) (fun hr0 hc0=>?_)
 ·skip
  have hlt:=a4o (s:=s) (i:=p) om
  refine ru 19 ?_
  refine (a0R 9001 (rdO g s (p+1)) rfl (by exact a2X (.refl _) (a0Y om))).wp ?_
  refine ru 2 ?_
  refine hq_ 39 (a0B (xs:=[_]) (pre:=[(9001,_)]) (a3N g s (p+1) hs hlt) ⟨rfl,trivial⟩) rfl rfl (a0g rfl a0e) rfl rfl ?_
  refine ru 3 ?_
  refine wdc (fun hr1 hc1=>?_) (fun hr1 hc1=>?_)
  ·refine ru 5 ?_
   refine b2r 45 (xs:=[_,_]) (pre:=[(9001,_)]) (b4W _ g s (p+1) (if 1 > n then 1 else n) hs hlt) ⟨rfl,⟨rfl,trivial⟩⟩ (a0g rfl a0e) rfl rfl (fun y c2 hy=>(a0O (a2V ok hX y (by unfold a2K;rw [hn];simp only;rw [if_pos hc0,if_neg hc1,hy]) rfl (a1O _) ⟨⟨_,rfl,a4j⟩,trivial⟩))) (fun x2 c2 hm=>?_)
   obtain ⟨m,q⟩:=x2
   (try dsimp only)
   refine ru 6 ?_
   have hmq:=a9Y hlt hm
   refine ru 2 ?_
   refine hq_ 59 (a0B (xs:=[_]) (pre:=[(9001,_)]) (a3N g s q hs hmq.1) ⟨rfl,trivial⟩) rfl rfl (a0g rfl a0e) rfl rfl ?_
   refine ru 3 ?_
   refine wdc (fun hr3 hc3=>?_) (fun hr3 hc3=>?_)
   ·refine ru 2 ?_
    refine a2u (xs:=[_]) (pre:=[(9001,_)]) (b2Y _ g s q hs hmq.1) ⟨rfl,trivial⟩ (a0g rfl a0e) (fun y c3 hy=>?_)
    refine (a0O ?_)
    exact a2V ok hX (y,q) (by rw [hy];unfold a2K;rw [hn];simp only;rw [if_pos hc0,if_neg hc1,hm];simp only;rw [if_neg hc3]) rfl (a1O _) ⟨⟨_,rfl,a4j⟩,trivial⟩
   refine ru 21 ?_
   refine a1F ok hX a3m.two rfl (a0Q rfl rfl ty_149.h rqc rfl rfl) [] rfl a0e ((⟨5,i,n,m,[]⟩,q+1)) (by unfold a2K;rw [hn];simp only;rw [if_pos hc0,if_neg hc1,hm];simp only;rw [if_pos hc3]) (by rfl) (by rfl) (a3O a0I a0I a0I a0I a0I) ?_
   exact ⟨⟨_,rfl,b0T kza (a7i om)⟩,trivial⟩
  refine ru 6 ?_
  refine hq_ 59 (a0B (xs:=[_]) (pre:=[(9001,_)]) (a3N g s (p+1) hs hlt) ⟨rfl,trivial⟩) rfl rfl (a0g rfl a0e) rfl rfl ?_
  refine ru 3 ?_
  refine wdc (fun hr3 hc3=>?_) (fun hr3 hc3=>?_)
  ·skip
   exfalso;exact hc3 hc1
  refine ru 21 ?_
  refine a1F ok hX a3m.two rfl (a0Q rfl rfl ty_149.h rqc rfl rfl) [] rfl a0e ((⟨5,i,n,-1,[]⟩,p+2)) (by unfold a2K;rw [hn];simp only;rw [if_pos hc0,if_pos hc1]) (by rfl) (by rfl) (a3O a0I a0I a0I a0I a0I) ?_
  exact ⟨⟨_,rfl,b0T kza (a7i om)⟩,trivial⟩
 refine ru 3 ?_
 refine hq_ 48 (a0B (xs:=[_]) (pre:=[(9001,_)]) (a3N g s p hs hnp.1) ⟨rfl,trivial⟩) rfl rfl (a0g rfl a0e) rfl rfl ?_
 refine ru 8 ?_
 refine wdc (fun hr2 hc2=>?_) (fun hr2 hc2=>?_)
 ·refine ru 3 ?_
  refine a2u (xs:=[_,_,_]) (pre:=[(9001,_)]) (b1u _ _ _ _ _ _) ⟨rfl,⟨rfl,⟨rfl,trivial⟩⟩⟩ (a0g rfl a0e) (fun y c4 hy=>?_)
  refine (a0O ?_)
  exact a2V ok hX (y,p) (by rw [hy];unfold a2K;rw [hn];simp only;rw [if_neg hc0,if_pos hc2.1,if_pos hc2.2]) rfl (a1O _) ⟨⟨_,rfl,a4j⟩,trivial⟩
 refine ru 6 ?_
 refine hq_ 59 (a0B (xs:=[_]) (pre:=[(9001,_)]) (a3N g s p hs hnp.1) ⟨rfl,trivial⟩) rfl rfl (a0g rfl a0e) rfl rfl ?_
 refine ru 3 ?_
 refine wdc (fun hr3 hc3=>?_) (fun hr3 hc3=>?_)
 ·refine ru 2 ?_
  refine a2u (xs:=[_]) (pre:=[(9001,_)]) (b2Y _ g s p hs hnp.1) ⟨rfl,trivial⟩ (a0g rfl a0e) (fun y c5 hy=>?_)
  refine (a0O ?_)
  exact a2V ok hX (y,p) (by rw [hy];unfold a2K;rw [hn];simp only;rw [if_neg hc0,if_neg hc3]) rfl (a1O _) ⟨⟨_,rfl,a4j⟩,trivial⟩
 refine ru 21 ?_
 refine a1F ok hX a3m.two rfl (a0Q rfl rfl ty_149.h rqc rfl rfl) [] rfl a0e ((⟨5,i,n,n,[]⟩,p+1)) (by unfold a2K;rw [hn];simp only;rw [if_neg hc0,if_pos hc3,if_neg (fun h0=>by rw [hc3,h0] at hr2;exact absurd hr2 (by decide))]) (by rfl) (by rfl) (a3O a0I a0I a0I a0I a0I) ?_
 exact ⟨⟨_,rfl,b0T kza (a7i om)⟩,trivial⟩
@[reducible] def sg0:Nat→Nat→HV:=fun _ j=>.imm (([.int .i64 0,.int .i64 0,.int .i64 0,.int .i64 0,.string ByteArray.empty]:List Value).getD j undef)
theorem c3M (c0 g:Nat) (s:List UInt8) (i:Nat) (hs:s.length≤1000000) (hi:smallZ (bz s i)=true):a3c Tryz.prog 133 c0 [.pt 9001 g 0 0] [(9001,rdO g s i)] (SgP (a9Z s i) g s):=by
 have hil:=a7F hi
 refine a0v Tryz.func133 rfl kr _ _ _ _ rfl 52 rfl rfl (fun X ok hX=>?_)
 refine ru 16 ?_
 refine a0n (α:=Nat) (fun x c=>⟨52,[(0,.v (.pt 9001 g 0 0)),(2,.v (.pt 2 c0 0 0)),(3,.v (a0h i))],[(9001,rdO g s (i+x)),(2,⟨c0,1,5,149,0,sg0⟩)],c⟩) (fun x=>x≤12∧i+x≤s.length∧(∀ j,j < x→alnumZ (bz s (i+j))=true)) (fun x=>12 - x) (0) (by exact ⟨by omega,by omega,fun j h=>absurd h om⟩) (a0c rfl (Nat.le_refl _) tsa hsa) (fun k c hx NhL1 hL1=>?_)
 (try dsimp only at hx hL1 ⊢)
 obtain ⟨hk,hik,hal⟩:=hx
 refine ru 4 ?_
 refine hq_ 9 (a0B (xs:=[_]) (pre:=[(9001,_)]) (a3N g s (i+k) hs hik) ⟨rfl,trivial⟩) rfl rfl (a0g rfl a0e) rfl rfl ?_
 refine cll (b3z _) ?_
 refine ru 9 ?_
 first
 | refine a4x 20 10 18 true _ (fun hb=>a0B (xs:=[_]) (pre:=[(9001,_)]) (a3N g s (i+k) hs hik) ⟨rfl,trivial⟩) rfl rfl rfl rfl (a0g rfl a0e) rfl rfl rfl ?_
 | refine b6e 20 10 18 11 false true _ _ (fun hb hb2=>a0B (xs:=[_]) (pre:=[(9001,_)]) (a3N g s (i+k) hs hik) ⟨rfl,trivial⟩) rfl rfl rfl rfl rfl (a0g rfl a0e) rfl rfl rfl ?_
 | refine a3S 20 10 18 _ _ true _ (fun hb=>a0B (xs:=[_]) (pre:=[(9001,_)]) (a3N g s (i+k) hs hik) ⟨rfl,trivial⟩) rfl rfl rfl rfl (a0g rfl a0e) rfl rfl rfl ?_
 first
 | refine stg 18 (fun hb=>a0i (xs:=[_]) (b0B _) ⟨rfl,trivial⟩ ⟨(Fz.eq rfl),trivial⟩) rfl rfl rfl rfl rfl ?_
 | refine b6e 21 10 18 11 false true _ _ (fun hb hb2=>a0i (xs:=[_]) (b0B _) ⟨rfl,trivial⟩ ⟨(Fz.eq rfl),trivial⟩) rfl rfl rfl rfl rfl a0e rfl rfl rfl ?_
 | refine sth 18 (fun hb=>a0i (xs:=[_]) (b0B _) ⟨rfl,trivial⟩ ⟨(Fz.eq rfl),trivial⟩) rfl rfl rfl rfl rfl ?_
 refine ru 4 ?_
 refine wdc (fun hr0 hc0=>?_) (fun hr0 hc0=>?_)
 ·skip
  have hall:alnumZ (bz s (i+k))=true:=(by unfold alnumZ;rw [Bool.or_eq_true];rcases hc0 with h | h;exact .inl h;exact .inr h.2);have hlt:i+k < s.length:=a4o (fun h=>by rw [h] at hall;exact absurd hall (by decide))
  refine ru 15 ?_
  refine wdc (fun hr1 hc1=>?_) (fun hr1 hc1=>?_)
  ·refine ru 2 ?_
   refine a2u (xs:=[_]) (pre:=[(9001,_)]) (b2Y _ g s (i+k) hs hik) ⟨rfl,trivial⟩ (a0g rfl a0e) (fun y c1 hy=>?_)
   refine (a0O (a2j (a0O (a2j (a0O ?_)))))
   obtain rfl:k=12:=om;exact a2V ok hX (y,i+12) (by rw [hy,b4w hlt];exact b6Z (fun j hj=>by rcases Nat.lt_or_ge j 12 with h | h;exact hal j h;obtain rfl:j=12:=om;exact hall)) rfl (a1O _) ⟨⟨_,rfl,a4j⟩,trivial⟩
  refine ru 13 ?_
  exact hL1 (k+1) _ _ (by (try dsimp only);exact ⟨by omega,by omega,fun j hj=>by rcases Nat.lt_or_ge j k with h | h;exact hal j h;obtain rfl:j=k:=om;exact hall⟩) (by (try dsimp only);omega) (a0c rfl (Nat.le_refl _) tsa (a0k.cons rfl (a2X (.refl _) (a0Y om)) hsa))
 have hno:alnumZ (bz s (i+k))=false:=(by unfold alnumZ;rw [hc0.1,Bool.false_or];have h2:=hc0.2;rcases Nat.eq_zero_or_pos k with h | h;subst h;rw [Nat.add_zero] at hc0;rw [hi] at hc0;exact absurd hc0.1 (by decide);rw [show decide ((i:Int) < ((i+k:Nat):Int))=true from decide_eq_true om,Bool.true_and] at h2;exact h2)
 refine ru 2 ?_
 refine a0d ?_
 refine ru 20 ?_
 refine a1F ok hX a3m.two rfl (a0Q rfl rfl ty_149.h rqc rfl rfl) [] rfl a0e ((⟨1,i,0,0,(s.drop i).take (i+k - i)⟩,i+k)) (b6A hk hal hno) (by rfl) (by rfl) (a3O a0I a0I a0I a0I a0I) ?_
 exact ⟨⟨_,rfl,a4j⟩,trivial⟩
theorem b6S:∀ k:Fin 6,(((⟨#[40,41,124,42,43,63]⟩:ByteArray)[k.val]'k.isLt).toNat < 128)∧((((⟨#[40,41,124,42,43,63]⟩:ByteArray)[k.val]'k.isLt).toNat:Int)=b6m k.val):=by decide +kernel
theorem b7Y {k:Nat} (h:k < 6):((⟨#[40,41,124,42,43,63]⟩:ByteArray)[k]'h).toNat < 128:=(b6S ⟨k,h⟩).1
theorem c5k {k:Nat} (h:k < 6):(((⟨#[40,41,124,42,43,63]⟩:ByteArray)[k]'h).toNat:Int)=b6m k:=(b6S ⟨k,h⟩).2
theorem c3n (c0 g:Nat) (s:List UInt8) (i:Nat) (hs:s.length≤1000000) (hi:i≤s.length) (hi0:smallZ (bz s i)=false) (hi1:bz s i≠123):a3c Tryz.prog 132 c0 [.pt 9001 g 0 0] [(9001,rdO g s i)] (SgP (a3Q s i) g s):=by
 refine a0v Tryz.func132 rfl kr _ _ _ _ rfl 56 rfl rfl (fun X ok hX=>?_)
 refine ru 8 ?_
 refine a0t 6 (b3k (id:=6) kr rfl) rfl rfl a0e rfl rfl (c':=c0+2) rfl ?_
 refine ru 3 ?_
 refine a0n (α:=Nat) (fun x c=>⟨56,[(0,.v (.pt 9001 g 0 0)),(2,.v (.pt 2 c0 0 0)),(6,.v (.pt 6 (c0+1) 0 0))],[(6,a7v (c0+1) ⟨#[40,41,124,42,43,63]⟩ x),(9001,rdO g s i),(2,⟨c0,1,5,149,0,sg0⟩)],c⟩) (fun x=>x≤6∧(∀ j,j < x→bz s i≠b6m j)) (fun x=>6 - x) (0) (by exact ⟨by omega,fun j h=>absurd h om⟩) (a0c rfl (Nat.le_refl _) tsa hsa) (fun k c hx NhL1 hL1=>?_)
 (try dsimp only at hx hL1 ⊢)
 obtain ⟨hk,hno⟩:=hx
 refine ru 1 ?_
 rcases Nat.lt_or_ge k 6 with hk6 | hk6
 ·refine ru 1 ?_
  refine a0t 7 (b5B (c:=b6m k) rfl hk6 (b7Y hk6) (c5k hk6)) rfl rfl (a0C rfl) rfl rfl (c':=c+1) rfl ?_
  refine ru 4 ?_
  refine wdc (fun hr0 hc0=>?_) (fun hr0 hc0=>?_)
  ·skip
   have hck:=b7s k
   refine ru 15 ?_
   refine hq_ 12 (a0B (xs:=[_]) (pre:=[(9001,_)]) (a3N g s i hs hi) ⟨rfl,trivial⟩) rfl rfl (a0g rfl a0e) rfl rfl ?_
   refine ru 5 ?_
   refine wdc (fun hr1 hc1=>?_) (fun hr1 hc1=>?_)
   ·refine ru 3 ?_
    exact hL1 (k+1) _ _ (by (try dsimp only);exact ⟨by omega,fun j hj=>by rcases Nat.lt_or_ge j k with h | h;exact hno j h;obtain rfl:j=k:=om;exact hc1⟩) (by (try dsimp only);omega) (a0c rfl (Nat.le_refl _) tsa hsa)
   refine ru 28 ?_
   refine wdc (fun hr2 hc2=>?_) (fun hr2 hc2=>?_)
   ·refine ru 30 ?_
    refine a0f ?_
    refine ru 2 ?_
    refine a1F ok hX a3m.two rfl (a0Q rfl rfl ty_149.h rqc rfl rfl) [] rfl a0e ((⟨5,i,0,-1,[]⟩,i+1)) (c5f (hc1.trans hc2)) (by rfl) (by rfl) (a3O a0I a0I a0I a0I a0I) ?_
    exact ⟨⟨_,rfl,b0T kza (a7i om)⟩,trivial⟩
   refine ru 6 ?_
   refine wdc (fun hr3 hc3=>?_) (fun hr3 hc3=>?_)
   ·refine ru 30 ?_
    refine a0f ?_
    refine ru 2 ?_
    refine a1F ok hX a3m.two rfl (a0Q rfl rfl ty_149.h rqc rfl rfl) [] rfl a0e ((⟨5,i,1,-1,[]⟩,i+1)) (c4r (hc1.trans hc3)) (by rfl) (by rfl) (a3O a0I a0I a0I a0I a0I) ?_
    exact ⟨⟨_,rfl,b0T kza (a7i om)⟩,trivial⟩
   refine ru 6 ?_
   refine wdc (fun hr4 hc4=>?_) (fun hr4 hc4=>?_)
   ·refine ru 30 ?_
    refine a0f ?_
    refine ru 2 ?_
    refine a1F ok hX a3m.two rfl (a0Q rfl rfl ty_149.h rqc rfl rfl) [] rfl a0e ((⟨5,i,0,1,[]⟩,i+1)) (c4z (hc1.trans hc4)) (by rfl) (by rfl) (a3O a0I a0I a0I a0I a0I) ?_
    exact ⟨⟨_,rfl,b0T kza (a7i om)⟩,trivial⟩
   refine ru 23 ?_
   refine a0f ?_
   refine ru 2 ?_
   refine a1F ok hX a3m.two rfl (a0Q rfl rfl ty_149.h rqc rfl rfl) [] rfl a0e ((⟨2+k,i,0,0,[]⟩,i+1)) (c2O hk6 hc1 hc2 hc3 hc4) (by rfl) (by rfl) (a3O a0I a0I a0I a0I a0I) ?_
   exact ⟨⟨_,rfl,b0T kza (a7i om)⟩,trivial⟩
  exfalso;cases hr0
 ·refine ru 1 ?_
  refine st1 (b2f rfl (by show ¬ k < 6;omega)) rfl rfl rfl ?_
  refine ru 4 ?_
  refine wdc (fun hr0 hc0=>?_) (fun hr0 hc0=>?_)
  ·skip
   exfalso;cases hr0
  refine ru 2 ?_
  refine a0d ?_
  refine ru 5 ?_
  refine a2u (xs:=[_]) (pre:=[(9001,_)]) (b2Y _ g s i hs hi) ⟨rfl,trivial⟩ (a0g rfl a0e) (fun y c1 hy=>?_)
  refine (a0O ?_)
  exact a2V ok hX (y,i) (by rw [hy];exact b9p hi0 hi1 (fun j hj=>hno j om)) rfl (a1O _) ⟨⟨_,rfl,a4j⟩,trivial⟩
theorem c1C (c0 g:Nat) (s:List UInt8) (i:Nat) (hs:s.length≤1000000) (hi:i≤s.length):a3c Tryz.prog 110 c0 [.pt 9001 g 0 0] [(9001,rdO g s i)] (SgP (a3Q s i) g s):=by
 refine a0v Tryz.func110 rfl kr _ _ _ _ rfl 21 rfl rfl (fun X ok hX=>?_)
 refine ru 16 ?_
 refine hq_ 8 (a0B (xs:=[_]) (pre:=[(9001,_)]) (a3N g s i hs hi) ⟨rfl,trivial⟩) rfl rfl (a0g rfl a0e) rfl rfl ?_
 refine ru 7 ?_
 refine cll (b3z _) ?_
 refine ru 3 ?_
 refine wdc (fun hr0 hc0=>?_) (fun hr0 hc0=>?_)
 ·refine ru 10 ?_
  refine a6Q 20 (xs:=[]) (pre:=[(9001,_)]) (c3M _ g s i hs hc0) rfl trivial (a0g rfl a0e) rfl rfl (fun y c1 hy=>(a0O (a2V ok hX y (by unfold a3Q;rw [if_pos hc0,hy]) rfl (a1O _) ⟨⟨_,rfl,a4j⟩,trivial⟩))) (fun x1 c1 hx=>?_)
  obtain ⟨x,q⟩:=x1
  (try dsimp only)
  refine ru 4 ?_
  refine a1F ok hX a3m.two rfl (a0Q rfl rfl ty_149.h rqc rfl rfl) [] rfl a0e ((x,q)) (by unfold a3Q;rw [if_pos hc0,hx]) (by rfl) (by rfl) (a3O a0I a0I a0I a0I a0I) ?_
  exact ⟨⟨_,rfl,a4j⟩,trivial⟩
 refine ru 7 ?_
 refine wdc (fun hr1 hc1=>?_) (fun hr1 hc1=>?_)
 ·refine ru 10 ?_
  refine a6Q 20 (xs:=[]) (pre:=[(9001,_)]) (c3c _ g s i hs (a4o om)) rfl trivial (a0g rfl a0e) rfl rfl (fun y c2 hy=>(a0O (a2V ok hX y (by unfold a3Q;rw [if_neg (by rw [hc0];decide),if_pos hc1,hy]) rfl (a1O _) ⟨⟨_,rfl,a4j⟩,trivial⟩))) (fun x2 c2 hx=>?_)
  obtain ⟨x,q⟩:=x2
  (try dsimp only)
  refine ru 4 ?_
  refine a1F ok hX a3m.two rfl (a0Q rfl rfl ty_149.h rqc rfl rfl) [] rfl a0e ((x,q)) (by unfold a3Q;rw [if_neg (by rw [hc0];decide),if_pos hc1,hx]) (by rfl) (by rfl) (a3O a0I a0I a0I a0I a0I) ?_
  exact ⟨⟨_,rfl,a4j⟩,trivial⟩
 refine ru 6 ?_
 refine a6Q 20 (xs:=[]) (pre:=[(9001,_)]) (c3n _ g s i hs hi hc0 hc1) rfl trivial (a0g rfl a0e) rfl rfl (fun y c3 hy=>(a0O (a2V ok hX y hy rfl (a1O _) ⟨⟨_,rfl,a4j⟩,trivial⟩))) (fun x3 c3 hx=>?_)
 obtain ⟨x,q⟩:=x3
 (try dsimp only)
 refine ru 4 ?_
 refine a1F ok hX a3m.two rfl (a0Q rfl rfl ty_149.h rqc rfl rfl) [] rfl a0e ((x,q)) (hx) (by rfl) (by rfl) (a3O a0I a0I a0I a0I a0I) ?_
 exact ⟨⟨_,rfl,a4j⟩,trivial⟩
end Go.Proofs.YtjdmfohncgkdoaaGreatDoor
namespace Go.Proofs.YtjdmfohncgkdoaaGreatDoor
set_option linter.unusedSimpArgs false
set_option linter.unusedVariables false
open Go.RowKit
open Go.Lib hiding intOf
theorem b4O (v:Int) (h0:0≤v) (h1:v < 18446744073709551616) (w:World) :
  Calls Tryz.prog 75 #[.int .u64 v] w fun e w'=>e=.returned (.string ⟨(decDigits v.toNat).toArray⟩)∧Below w.heap.size w w':=by
 have:=b9q v.toNat (by omega) w
 rwa [show ((v.toNat:Nat):Int)=v by omega] at this
theorem b7M (l:List UInt8):(⟨#[45]⟩++⟨l.toArray⟩:ByteArray)=⟨(45::l).toArray⟩:=by
 have:(⟨#[45]⟩++⟨l.toArray⟩:ByteArray).data=(45::l).toArray:=by
  apply Array.ext'
  rw [ByteArray.data_append,Array.toList_append]
  simp
 have h2:(⟨#[45]⟩++⟨l.toArray⟩:ByteArray)=⟨(⟨#[45]⟩++⟨l.toArray⟩:ByteArray).data⟩:=rfl
 rw [h2,this]
theorem b1w (n:Int) (h0:-9223372036854775808≤n) (h1:n≤9223372036854775807) (w:World) :
  Calls Tryz.prog 52 #[.int .i64 n] w fun e w'=>e=.returned (.string ⟨(itoa n).toArray⟩)∧Below w.heap.size w w':=by
 by_cases hn:n < 0
 ·have e:itoa n=45::decDigits n.natAbs:=by unfold itoa;rw [if_pos hn]
  have w1:IntKind.i64.wrap (n+1)=n+1:=by rw [IntKind.wrap_i64];omega
  have w2:IntKind.i64.wrap (-(n+1))=-(n+1):=by rw [IntKind.wrap_i64];omega
  have w3:IntKind.u64.wrap (-(n+1))=-(n+1):=by rw [IntKind.wrap_u64];omega
  have w4:IntKind.u64.wrap (-(n+1)+1)=-(n+1)+1:=by rw [IntKind.wrap_u64];omega
  have hd:=fun w=>b4O (-(n+1)+1) (by omega) (by omega) w
  rw [show (-(n+1)+1).toNat=n.natAbs by omega] at hd
  have hl:(decDigits n.natAbs).length≤20:=b0v 19 n.natAbs (by omega)
  rw [e]
  have hnl:¬ 9223372036854775807 < 1+(decDigits n.natAbs).length:=by omega
  have hm:=b7M (decDigits n.natAbs)
  generalize decDigits n.natAbs=l at *
  go_enter Tryz.func52,Tryz.ntmps52
  go_wp2_with (go_at_call 75;refine (hd _).mono ?_;rintro e w1 ⟨rfl,b1⟩)
  go_ret
  exact ⟨rfl,b1⟩
 ·have e:itoa n=decDigits n.toNat:=by unfold itoa;rw [if_neg hn]
  have w3:IntKind.u64.wrap n=n:=by rw [IntKind.wrap_u64];omega
  have hd:=fun w=>b4O n (by omega) (by omega) w
  rw [e]
  generalize decDigits n.toNat=l at *
  go_enter Tryz.func52,Tryz.ntmps52
  go_wp2_with (go_at_call 75;refine (hd _).mono ?_;rintro e w1 ⟨rfl,b1⟩)
  go_ret
  exact ⟨rfl,b1⟩
set_option maxRecDepth 100000 in
set_option maxHeartbeats 600000 in
theorem b9W (s:ByteArray) (w:World) (hs:s.size≤200) :
    Calls Tryz.prog 92 #[.string s] w fun e w'=>e=.returned (c3B (a8Z s.data.toList))∧Below w.heap.size w w':=by
  have hlen:s.data.toList.length=s.size:=by rw [Array.length_toList];rfl
  by_cases hsz:s.size=0∨20 < s.size
  · have hr:a8Z s.data.toList=none:=by unfold a8Z;rw [if_pos (by omega)]
    rw [hr]
    clear hr hlen
    rcases Nat.eq_zero_or_pos s.size with h0 | h0
    · go_enter Tryz.func92,Tryz.ntmps92
      go_wp2
      go_ret2
      exact ⟨rfl,Below.refl _ _⟩
    · have h1:¬ s.size=0:=by omega
      have h2:(20:Int) < s.size:=by omega
      go_enter Tryz.func92,Tryz.ntmps92
      go_wp2
      go_ret2
      exact ⟨rfl,Below.refl _ _⟩
  · have h1:¬ s.size=0:=by omega
    have h2:¬ 20 < s.size:=by omega
    have h3:¬ (20:Int) < s.size:=by omega
    go_enter Tryz.func92,Tryz.ntmps92
    go_wp2
    go_loopw [4,5] (fun xv iv wr=>∃ x k,xv=.int .u64 ((x:Nat):Int)∧iv=.int .i64 ((k:Nat):Int)∧k≤s.size∧x≤9223372036854775809∧((k=0∧x=0)∨(0 < k∧a3u x (s.data.toList.drop k)=a3u 0 (a2L s.data.toList)))∧wr=w) (fun _ iv _=>s.size - (RowKit.intOf iv).toNat)
    case atStart=>exact ⟨0,0,rfl,rfl,by omega,by omega,.inl ⟨rfl,rfl⟩,rfl⟩
    case round =>
      obtain ⟨x,k,rfl,rfl,hk,hx,hI,rfl⟩:=hrel
      by_cases hlt:k < s.size
      · have hlt2:(k:Int) < s.size:=by omega
        have hget:s.data.toList.drop k=s[k]::s.data.toList.drop (k+1):=by
          rw [List.drop_eq_getElem_cons (by omega)]
          rfl
        have h57:s[k].toNat < 256:=s[k].toNat_lt
        rcases Nat.eq_zero_or_pos k with h0 | h0
        · subst h0
          have hx0:x=0:=by omega
          subst hx0
          clear hI
          have hhead:s.data.toList.head?=some s[0]:=by
            rw [List.drop_zero] at hget;rw [hget];rfl
          have hA:((s[0].toNat:Int) == 45)=true→a3u 0 (s.data.toList.drop 1)=a3u 0 (a2L s.data.toList):=by
            intro h
            have h:s[0].toNat=45:=by simp only [beq_iff_eq] at h;omega
            unfold a2L
            rw [hhead,if_pos (by simp [h]),List.drop_one]
          have hB:¬ s[0].toNat=45→a2L s.data.toList=s[0]::s.data.toList.drop 1:=by
            intro h
            unfold a2L
            rw [hhead,if_neg (by simp [h]),←hget,List.drop_zero]
          have hbad:(s[0].toNat < 48∨57 < s[0].toNat)→((s[0].toNat:Int) == 45)=false→a8Z s.data.toList=none:=by
            intro h1 h2
            have h2:¬ s[0].toNat=45:=by
              intro h;rw [h] at h2;simp at h2
            unfold a8Z
            rw [if_neg (by omega),hB h2]
            simp only [a3u]
            rw [if_pos (by omega)]
          have hgood:¬ (s[0].toNat < 48∨57 < s[0].toNat)→a3u (10 * 0+(s[0].toNat - 48)) (s.data.toList.drop 1)=a3u 0 (a2L s.data.toList):=by
            intro h1
            rw [hB (by omega)]
            simp only [a3u]
            rw [if_neg (by omega)]
          have HA:=Lib.hid hA
          have HB:=Lib.hid hbad
          have HG:=Lib.hid hgood
          clear hA hB hbad hgood hhead hget
          go_wp2
          all_goals first
            | (refine ⟨⟨0,1,rfl,rfl,by omega,by omega,.inr ⟨by omega,HA.out (by assumption)⟩,trivial⟩,by simp only [RowKit.intOf];omega⟩)
            | (refine ⟨⟨10 * 0+(s[0].toNat - 48),1,by congr 1;omega,rfl,by omega,by omega,.inr ⟨by omega,HG.out (by omega)⟩,trivial⟩,by simp only [RowKit.intOf];omega⟩)
            | (go_ret2;refine ⟨?_,Below.refl _ _⟩;rw [HB.out (by omega) (by assumption)];rfl)
        · have hI:a3u x (s.data.toList.drop k)=a3u 0 (a2L s.data.toList):=by
            rcases hI with h | h
            · omega
            · exact h.2
          have hbad:(s[k].toNat < 48∨57 < s[k].toNat∨922337203685477580 < x)→a8Z s.data.toList=none:=by
            intro h1
            unfold a8Z
            rw [if_neg (by omega),←hI,hget]
            simp only [a3u]
            rw [if_pos (by omega)]
          have hgood:¬ (s[k].toNat < 48∨57 < s[k].toNat∨922337203685477580 < x)→a3u (10 * x+(s[k].toNat - 48)) (s.data.toList.drop (k+1))=a3u 0 (a2L s.data.toList):=by
            intro h1
            rw [←hI,hget]
            simp only [a3u]
            rw [if_neg (by omega)]
          have hk0:¬ k=0:=by omega
          have HB:=Lib.hid hbad
          have HG:=Lib.hid hgood
          clear hbad hgood hget hI
          go_wp2
          all_goals first
            | (refine ⟨⟨10 * x+(s[k].toNat - 48),k+1,congrArg (Value.int IntKind.u64) (by omega),congrArg (Value.int IntKind.i64) (by omega),by omega,by omega,.inr ⟨by omega,HG.out (by omega)⟩,trivial⟩,by simp only [RowKit.intOf];omega⟩)
            | (go_ret2;refine ⟨?_,Below.refl _ _⟩;rw [HB.out (by omega)];rfl)
      · have hk1:k=s.size:=by omega
        have hI:a3u 0 (a2L s.data.toList)=some x:=by
          rcases hI with h | h
          · omega
          · rw [←h.2,List.drop_eq_nil_of_le (by omega)];rfl
        have hget:s.data.toList.head?=some s[0]:=by
          have:s.data.toList.drop 0=s[0]::s.data.toList.drop 1:=by
            rw [List.drop_eq_getElem_cons (by omega)]
            rfl
          rw [List.drop_zero] at this;rw [this];rfl
        have hV:a8Z s.data.toList=if itoa (a3E s.data.toList x)=s.data.toList then some (a3E s.data.toList x) else none:=by
          unfold a8Z
          rw [if_neg (by omega),hI]
        have hb:=a6s s.data.toList x
        have hst:=b0V s
        obtain ⟨n,hn⟩:∃ n,a3E s.data.toList x=n:=⟨_,rfl⟩
        rw [hn] at hV hb
        have hk2:¬ (k:Int) < s.size:=by omega
        have hlt0:(0:Int) < s.size:=by omega
        have HS:=fun w=>b1w n hb.1 hb.2 w
        subst hk1
        have hx0:(0:Int)≤x:=by omega
        have hx2:(x:Int)≤9223372036854775809:=by omega
        cases h45:((s[0].toNat:Int) == 45) with
        | true =>
          have hn2:n=wrap64 (0 - (x:Int)):=by
            rw [←hn];unfold a3E
            rw [hget,if_pos]
            have:s[0].toNat=45:=by simp only [beq_iff_eq] at h45;omega
            simp [this]
          have hw2:wrap64 (IntKind.u64.wrap (-(x:Int)))=n:=by rw [hn2];simp only [wrap64,IntKind.wrap_u64];omega
          clear hI hn hget hn2
          cases hq:(itoa n == s.toList) with
          | true =>
            have hr:a8Z s.data.toList=some n:=by rw [hV,if_pos];rw [←hst];simpa using hq
            clear hst hV
            have HR:=Lib.hid hr
            clear hr
            go_wp2_with (go_at_call 52;rw [hw2];refine (HS _).mono ?_;rintro e w1 ⟨rfl,b1⟩)
            go_ret2
            refine ⟨?_,b1⟩
            rw [HR.out]
            rfl
          | false =>
            have hr:a8Z s.data.toList=none:=by rw [hV,if_neg];rw [←hst];simpa using hq
            clear hst hV
            have HR:=Lib.hid hr
            clear hr
            go_wp2_with (go_at_call 52;rw [hw2];refine (HS _).mono ?_;rintro e w1 ⟨rfl,b1⟩)
            go_ret2
            refine ⟨?_,b1⟩
            rw [HR.out]
            rfl
        | false =>
          have hn2:n=wrap64 (x:Int):=by
            rw [←hn];unfold a3E
            rw [hget,if_neg]
            have:¬ s[0].toNat=45:=by intro h;rw [h] at h45;simp at h45
            simp [this]
          have hw2:wrap64 (x:Int)=n:=by rw [hn2]
          clear hI hn hget hn2
          cases hq:(itoa n == s.toList) with
          | true =>
            have hr:a8Z s.data.toList=some n:=by rw [hV,if_pos];rw [←hst];simpa using hq
            clear hst hV
            have HR:=Lib.hid hr
            clear hr
            go_wp2_with (go_at_call 52;refine (HS _).mono ?_;rintro e w1 ⟨rfl,b1⟩)
            go_ret2
            refine ⟨?_,b1⟩
            rw [HR.out]
            rfl
          | false =>
            have hr:a8Z s.data.toList=none:=by rw [hV,if_neg];rw [←hst];simpa using hq
            clear hst hV
            have HR:=Lib.hid hr
            clear hr
            go_wp2_with (go_at_call 52;refine (HS _).mono ?_;rintro e w1 ⟨rfl,b1⟩)
            go_ret2
            refine ⟨?_,b1⟩
            rw [HR.out]
            rfl
end Go.Proofs.YtjdmfohncgkdoaaGreatDoor
namespace Go.Proofs
open Go.Shelf
set_option maxRecDepth 100000
def Tryz.bld240_ren:Go.Shelf.Ren:=⟨fun | 240=>50 | 276=>74 | n=>n,fun | 0=>0 | 3=>3 | 4=>4 | 5=>5 | 9=>9 | 20=>20 | 37=>60 | 70=>59 | 72=>62 | 75=>69 | 80=>74 | 164=>133  | n=>n,fun | n=>n⟩
theorem Tryz.bld240:Go.Proofs.Lays.n240 Tryz.prog Tryz.bld240_ren:={
 mixed:=by kernel_rfl
 f240:=Tryz.func50.trans (congrArg some (by kernel_rfl))
 f276:=Tryz.func74.trans (congrArg some (by kernel_rfl))
 t0:=Tryz.underlying0
 a0:=Tryz.isAgg0
 z0:=Tryz.sizeOf0
 v0:=Tryz.zeroValue0
 t4:=Tryz.underlying4
 a4:=Tryz.isAgg4
 z4:=Tryz.sizeOf4
 v4:=Tryz.zeroValue4
 t9:=Tryz.underlying9
 a9:=Tryz.isAgg9
 z9:=Tryz.sizeOf9
 v9:=Tryz.zeroValue9
 t20:=Tryz.underlying20
 a20:=Tryz.isAgg20
 z20:=Tryz.sizeOf20
 v20:=Tryz.zeroValue20
 t70:=Tryz.underlying59
 a70:=Tryz.isAgg59
 z70:=Tryz.sizeOf59
 v70:=Tryz.zeroValue59
 t72:=Tryz.underlying62
 a72:=Tryz.isAgg62
 z72:=Tryz.sizeOf62
 v72:=Tryz.zeroValue62
 t164:=Tryz.underlying133
 a164:=Tryz.isAgg133
 z164:=Tryz.sizeOf133
 v164:=Tryz.zeroValue133 }
theorem Tryz.bldX240:Builder.X72 Tryz.prog Tryz.bld240_ren:={ sizeBuilder:=by kernel_rfl,liesBuilder:=by kernel_rfl }
end Go.Proofs
namespace Go.Proofs.YtjdmfohncgkdoaaGreatDoor
set_option linter.unusedSimpArgs false
set_option linter.unusedVariables false
open Go.RowKit
open Go.Lib hiding intOf
def c6c (n:Nat):UInt8:=if n < 10 then UInt8.ofNat (48+n) else UInt8.ofNat (87+n)
def a3j (c:UInt8):Bool:=decide (32 < c.toNat)&&!decide (c.toNat=127)
def c5u (c:UInt8):List UInt8 :=
 if c.toNat=92 then [92,92] else if c.toNat=32 then [92,115] else if c.toNat=10 then [92,110] else if a3j c then [c] else [92,120,c6c (c.toNat / 16),c6c (c.toNat % 16)]
def c5y (l:List UInt8):List UInt8:=l.flatMap c5u
theorem c2P (c:UInt8) (w:World):Calls Tryz.prog 36 #[.int .u8 (c.toNat:Int)] w fun e w'=>e=.returned (.bool (a3j c))∧w'=w:=by
 by_cases h1:32 < c.toNat
 ·by_cases h2:c.toNat=127
  ·have hp:a3j c=false:=by simp [a3j,h2]
   rw [hp,h2]
   go_enter Tryz.func36,Tryz.ntmps36
   go_wp2
   go_ret
   exact ⟨rfl,rfl⟩
  ·have hp:a3j c=true:=by simp [a3j,h1,h2]
   rw [hp]
   have h3:(32:Int) < c.toNat:=by omega
   have h4:((c.toNat:Int) != 127)=true:=by simp;omega
   go_enter Tryz.func36,Tryz.ntmps36
   go_wp2
   go_ret
   exact ⟨rfl,rfl⟩
 ·have hp:a3j c=false:=by simp [a3j,h1]
  rw [hp]
  have h3:¬ (32:Int) < c.toNat:=by omega
  go_enter Tryz.func36,Tryz.ntmps36
  go_wp2
  go_ret
  exact ⟨rfl,rfl⟩
set_option maxRecDepth 100000
theorem c3t {w:World} (h:LibW w):LibAt w:=⟨h.tab (by unfold hasLib;kernel_rfl),h.syn (by unfold hasLib;kernel_rfl),h.rng (by unfold hasLib;kernel_rfl)⟩
theorem b2q {w w':World} {F:Addr→Prop} {u v:Value} (hF:∀ a,F a→a.spot=none∧(w.cell? a).isSome=true) (hb:Below w.heap.size w w'):a0X w F (t2 (.imm u) (.imm v)) (.returned (.tuple #[u,v])) w' :=
 ⟨hb,_,F,rfl,fun _ h=>h,fun _ h=>.inl h,fun a ha=>⟨(hF a ha).1,by rw [World.cell?_of_block (hb.block _ (a1a (hF a ha).2))];exact (hF a ha).2⟩,
  .tup _ 2 _ (fun i=>match i with | 0=>u | _=>v) rfl (fun i hi=>by match i,hi with | 0,_=>rfl | 1,_=>rfl) (fun i hi=>by match i,hi with | 0,_=>exact .imm _ | 1,_=>exact .imm _)⟩
@[reducible] def c5n (o:Option Int):HV:=t2 (a0h (o.getD 0)) (a0s o.isSome)
theorem c5B (l:List UInt8) (hl:l.length≤281474976710656):a0q Tryz.prog 90 [a0p l] (c5n (a3f l)):=by
 refine ⟨⟨_,_,Tryz.func90,rfl,by kernel_rfl⟩,fun w F vs hF hr hw=>?_⟩
 obtain ⟨v,rfl,hv⟩:=c0Z hr
 rw [hv.imm_inv]
 refine (c5q ⟨l.toArray⟩ (by rw [a2J];exact hl) w (c3t hw)).mono ?_
 rintro e w' ⟨rfl,hb⟩
 have e1:c3B (a3f (⟨l.toArray⟩:ByteArray).data.toList)=.tuple #[.int .i64 ((a3f l).getD 0),.bool (a3f l).isSome]:=by
  show c3B (a3f l)=_
  cases a3f l <;> rfl
 rw [e1]
 exact b2q hF hb
theorem c0P (l:List UInt8) (hl:l.length≤200):a0q Tryz.prog 92 [a0p l] (c5n (a3f l)):=by
 refine ⟨⟨_,_,Tryz.func92,rfl,by kernel_rfl⟩,fun w F vs hF hr hw=>?_⟩
 obtain ⟨v,rfl,hv⟩:=c0Z hr
 rw [hv.imm_inv]
 refine (b9W ⟨l.toArray⟩ w (by rw [a2J];exact hl)).mono ?_
 rintro e w' ⟨rfl,hb⟩
 have e1:c3B (a8Z (⟨l.toArray⟩:ByteArray).data.toList)=.tuple #[.int .i64 ((a3f l).getD 0),.bool (a3f l).isSome]:=by
  show c3B (a8Z l)=_
  rw [b7g]
  cases a3f l <;> rfl
 rw [e1]
 exact b2q hF hb
theorem c1y (n:Int) (h0:-9223372036854775808≤n) (h1:n≤9223372036854775807):a0q Tryz.prog 48 [a0h n] (a0p (itoa n)):=by
 refine ⟨⟨_,_,Tryz.func48,rfl,by kernel_rfl⟩,fun w F vs hF hr hw=>?_⟩
 obtain ⟨v,rfl,hv⟩:=c0Z hr
 rw [hv.imm_inv]
 refine (c4n n h0 h1 w (c3t hw)).mono ?_
 rintro e w' ⟨rfl,hb⟩
 exact a3a hF hb
theorem a6i (n:Int) (h0:-9223372036854775808≤n) (h1:n≤9223372036854775807):a0q Tryz.prog 52 [a0h n] (a0p (itoa n)):=by
 refine ⟨⟨_,_,Tryz.func52,rfl,by kernel_rfl⟩,fun w F vs hF hr hw=>?_⟩
 obtain ⟨v,rfl,hv⟩:=c0Z hr
 rw [hv.imm_inv]
 refine (b1w n h0 h1 w).mono ?_
 rintro e w' ⟨rfl,hb⟩
 exact a3a hF hb
end Go.Proofs.YtjdmfohncgkdoaaGreatDoor
namespace Go.Proofs.YtjdmfohncgkdoaaGreatDoor
set_option linter.unusedSimpArgs false
set_option linter.unusedVariables false
theorem b4r {a b:UInt8} (h:a.toNat=b.toNat):a=b:=UInt8.toNat_inj.1 h
open Classical in
noncomputable def c6s (l:List UInt8):Option (List UInt8):=if h:∃ b,c5y b=l then some h.choose else none
end Go.Proofs.YtjdmfohncgkdoaaGreatDoor
namespace Go.Proofs
open Go.Shelf
def Tryz.lays137_ren:Go.Shelf.Ren:=⟨fun | 137=>107 | 217=>128 | 266=>150 | n=>n,fun | 9=>9 | 5=>5 | 3=>3 | n=>n,fun | n=>n⟩
theorem Tryz.lays137:Go.Proofs.Lays.n137 Tryz.prog Tryz.lays137_ren:={
 mixed:=by kernel_rfl
 f137:=Tryz.func107.trans (congrArg some (by kernel_rfl))
 f217:=Tryz.func128.trans (congrArg some (by kernel_rfl))
 f266:=Tryz.func150.trans (congrArg some (by kernel_rfl))
 t3:=Tryz.underlying3
 a3:=Tryz.isAgg3
 z3:=Tryz.sizeOf3
 v3:=Tryz.zeroValue3
 t5:=Tryz.underlying5
 a5:=Tryz.isAgg5
 z5:=Tryz.sizeOf5
 v5:=Tryz.zeroValue5
 t9:=Tryz.underlying9
 a9:=Tryz.isAgg9
 z9:=Tryz.sizeOf9
 v9:=Tryz.zeroValue9 }
open Go.RowKit in
theorem Tryz.strings_IndexByte (s:ByteArray) (c:Int) (w:World) :
  Calls Tryz.prog 107 #[.string s,.int .u8 c] w fun e w'=>e=.returned (.int .i64 (Lib.indexByte s.data.toList c.toNat.toUInt8))∧w'=w:=Any.strings_IndexByte Tryz.lays137 s c w
end Go.Proofs
namespace Go.Proofs.YtjdmfohncgkdoaaGreatDoor
set_option linter.unusedSimpArgs false
set_option linter.unusedVariables false
set_option maxRecDepth 100000
open Go.RowKit
theorem c3b (c:UInt8):((c.toNat:Int)).toNat.toUInt8=c:=by simp
theorem a7V (l:List UInt8) (c:UInt8):a0q Tryz.prog 107 [a0p l,u8V c] (a0h (Lib.indexByte l c)):=by
 refine ⟨⟨_,_,Tryz.func107,rfl,by kernel_rfl⟩,fun w F vs hF hr hw=>?_⟩
 obtain ⟨u,v,rfl,hu,hv⟩:=c3A hr
 rw [hu.imm_inv,hv.imm_inv]
 refine (Tryz.strings_IndexByte ⟨l.toArray⟩ c.toNat w).mono ?_
 rintro e w' ⟨rfl,rfl⟩
 rw [c3b]
 exact a3a hF (Below.refl _ _)
theorem c2R (c:UInt8) (x:Int) (hx:x=(c.toNat:Int)):a0q Tryz.prog 36 [.imm (.int .u8 x)] (a0s (a3j c)):=by
 subst hx
 refine ⟨⟨_,_,Tryz.func36,rfl,by kernel_rfl⟩,fun w F vs hF hr hw=>?_⟩
 obtain ⟨u,rfl,hu⟩:=c0Z hr
 rw [hu.imm_inv]
 refine (c2P c w).mono ?_
 rintro e w' ⟨rfl,rfl⟩
 exact a3a hF (Below.refl _ _)
instance:Inhabited Sg:=⟨⟨0,0,0,0,[]⟩⟩
@[reducible] def a9y (l:List Sg):Nat→Nat→HV:=fun i j=>sgF (l.getD i default) j
@[reducible] def a3B (l:List Sg):HV:=.sl 5 l.length (a9y l)
def b6p (r:Except (Int×Int) (List Sg)):List Sg×Int×Int:=match r with | .ok l=>(l,0,0) | .error e=>([],e.1,e.2)
@[reducible] def c0W (r:List Sg×Int×Int):HV:=t3 (a3B r.1) (a0h r.2.1) (a0h r.2.2)
@[reducible] def cell1 (g ty:Nat) (x:HV):HObj:=⟨g,1,1,ty,0,fun _ _=>x⟩
theorem a5u {kp sh:List (Nat×HObj)} {g ty:Nat} {f:Nat→Nat→HV} {y:HV} (h:Kz kp sh (f 0 0) y):OKz kp sh ⟨g,1,1,ty,0,f⟩ (cell1 g ty y):=c5C h
theorem c4b (c ga gb gd gl n:Nat) (F:Nat→Nat→HV) (hF:∀ i j,∃ v,F i j=.imm v) (va ve:Int):c3H Tryz.prog 104 a9c a9c c [.pt 2 ga 0 0,.pt 3 gb 0 0,.pt 4 gd 0 0] (.imm .nilIface)
  [(2,cell1 ga 139 (.os 54 gl 0 n)),(3,cell1 gb 3 (a0h va)),(4,cell1 gd 27 (a0h ve)),(54,⟨gl,n,5,149,0,F⟩)]
  (a4W (fun (_:Unit) _=>True) (fun _=>.tup 0 fun _=>default) (fun _=>[(2,cell1 ga 139 (.os 54 gl 0 n)),(3,cell1 gb 3 (a0h va)),(4,cell1 gd 27 (a0h ve)),(54,⟨gl,n,5,149,0,F⟩)])):=by
 refine b7r _ _ _ c6t Tryz.func104 rfl kr _ _ _ rfl 21 rfl rfl rfl rfl rfl rfl (by decide) (fun X ok hX=>?_)
 refine ru 6 ?_
 refine wdc (fun hr0 hc0=>?_) (fun hr0 hc0=>?_)
 ·skip
  exfalso;cases hr0
 refine ru 1 ?_
 refine a1H ?_
 refine a1u ok hX a3m.one rfl  [] rfl a0e (()) (trivial) (by rfl) (by rfl) (kza) ?_
 exact ⟨⟨_,rfl,a5u kza⟩,⟨⟨_,rfl,a5u kza⟩,⟨⟨_,rfl,a5u kza⟩,⟨⟨_,rfl,.of (fun i j hi hj=>by obtain ⟨v,hv⟩:=hF i j;rw [hv];exact a0I)⟩,trivial⟩⟩⟩⟩
theorem c3W (c ga gb gd:Nat) (x:HV) (va ve:Int) (e:Int×Int):c3H Tryz.prog 104 b6O b1a c [.pt 2 ga 0 0,.pt 3 gb 0 0,.pt 4 gd 0 0] (a6v e)
  [(2,cell1 ga 139 x),(3,cell1 gb 3 (a0h va)),(4,cell1 gd 27 (a0h ve))]
  (a4W (fun (_:Unit) _=>True) (fun _=>.tup 0 fun _=>default) (fun _=>[(2,cell1 ga 139 (.imm (.slice none 0 0))),(3,cell1 gb 3 (a0h e.1)),(4,cell1 gd 27 (a0h e.2))])):=by
 refine b7r _ _ _ (c6l _) Tryz.func104 rfl kr _ _ _ rfl 21 rfl rfl rfl rfl rfl rfl (by decide) (fun X ok hX=>?_)
 refine ru 6 ?_
 refine wdc (fun hr0 hc0=>?_) (fun hr0 hc0=>?_)
 ·refine ru 3 ?_
  refine s0 (b0E kr rfl) ?_
  refine ru 3 ?_
  refine a0t 4 (a4t (id:=104) (sz:=2) zc_170.h rfl rfl omx omx) rfl rfl a0e rfl rfl (c':=c+1) rfl ?_
  refine ru 11 ?_
  refine wdc (fun hr1 hc1=>?_) (fun hr1 hc1=>?_)
  ·skip
   exfalso;cases hr1
  refine ru 11 ?_
  refine a1H ?_
  refine a1u ok hX a3m.one rfl  [] rfl a0e (()) (trivial) (by rfl) (by rfl) (kza) ?_
  exact ⟨⟨_,rfl,a5u kza⟩,⟨⟨_,rfl,a5u kza⟩,⟨⟨_,rfl,a5u kza⟩,trivial⟩⟩⟩
 exfalso;cases hr0
theorem c1I (x:Sg) (j:Nat):∃ v,sgF x j=.imm v:=by
 match j with
 | 0=>exact ⟨_,rfl⟩
 | 1=>exact ⟨_,rfl⟩
 | 2=>exact ⟨_,rfl⟩
 | 3=>exact ⟨_,rfl⟩
 | j+4=>exact ⟨_,rfl⟩
theorem b3K {sh:List (Nat×HObj)} (x:Sg) (j:Nat):Fz sh (sgF x j) (sgF x j):=by
 obtain ⟨v,hv⟩:=c1I x j
 rw [hv];exact .imm _
theorem b1T {g ty fl:Nat} {f f':Nat→Nat→HV} (h0:Sb (f 0 0) (f' 0 0)) (hfn:fl≤1:=by exact Nat.zero_le _):a5M ⟨g,1,1,ty,fl,f⟩ ⟨g,1,1,ty,fl,f'⟩:=.of (hfn:=hfn) fun i j hi hj=>by
 obtain rfl:i=0:=by omega
 match j,hj with | 0,_=>exact h0
@[reducible] def c6k:HV:=.fn (.func 104) ([.pt 2 0 0 0,.pt 3 1 0 0,.pt 4 2 0 0]:List HV).length (fun i=>([.pt 2 0 0 0,.pt 3 1 0 0,.pt 4 2 0 0]:List HV).getD i default)
theorem b3x {w:World} {F:Addr→Prop} {s:List UInt8} {fn:Func} {n clk:Nat} {tm:List (Nat×TV)} {hp:List (Nat×HObj)} {y:Int×Int} {x:HV} {va ve:Int} (hv:lexV s=.error y) (hfn:fn.results=#[.cell 2 139,.cell 3 3,.cell 4 27])
  (h2:tget tm 2=some (.v (.pt 2 0 0 0))) (h3:tget tm 3=some (.v (.pt 3 1 0 0))) (h4:tget tm 4=some (.v (.pt 4 2 0 0)))
  (o2:hget hp 2=some (cell1 0 139 x)) (o3:hget hp 3=some (cell1 1 3 (a0h va))) (o4:hget hp 4=some (cell1 2 27 (a0h ve))) :
  b1g ((Ctx.top w F).wait c6k) (bodyPostD Tryz.prog fn (a0X w F (c0W (b6p (lexV s))))) ⟨n,tm,hp,clk⟩ (a6v y):=by
 refine b7R ⟨rfl,rfl⟩ (c3W clk 0 1 2 x va ve y) (a0g o2 (a0g o3 (a0g o4 a0e))) (fun x kp c' h=>by obtain ⟨_,_,h,_⟩:=h;cases h) (fun r kp c' h=>?_)
 obtain ⟨_,_,hr,hk⟩:=h
 subst hk
 refine a5f hfn (a0Q h2 rfl ty_139.h (fun h=>by first | rfl | cases h) rfl rfl) (a0Q h3 rfl ty_3.h (fun h=>by first | rfl | cases h) rfl rfl) (a0Q h4 rfl ty_27.h (fun h=>by first | rfl | cases h) rfl rfl) [] rfl a0e ?_
 rw [hv]
 exact a1r (.nil 0 5 _ (by decide) none) (.imm _) (.imm _)
theorem c5g (g:Nat) (s:List UInt8) (i:Nat) (hs:s.length≤1000000) (hi:i≤s.length) {x:Sg} {q:Nat} (h:a3Q s i=.ok (x,q)):a5F Tryz.prog 110 [.pt 9001 g 0 0] [(9001,rdO g s i)] (sgH x) [(9001,rdO g s q)]:=fun c =>
 (c1C c g s i hs hi).mono fun e kp c' hP=>by
  rcases hP with ⟨y,hy,he,hk⟩ | ⟨y,hy,_⟩
  ·rw [h] at hy;injection hy with hy;subst hy;exact ⟨(),trivial,he,hk⟩
  ·rw [h] at hy;cases hy
theorem c4R (s:List UInt8) (hs:s.length≤1000000):a0q Tryz.prog 79 [a0p s] (c0W (b6p (lexV s))):=by
 have hV:=b3j s
 refine b7P Tryz.func79 rfl kr _ _ _ rfl 55 rfl rfl (fun w F=>?_)
 refine ru 10 ?_
 refine b5t rfl ?_
 refine ru 5 ?_
 refine a0t 10 (a5U (id:=9001) (sz:=2) rfl rfl rfl (by decide) (by decide)) rfl rfl a0e rfl rfl (c':=4) rfl ?_
 refine ru 4 ?_
 refine (a1q 2 0 54 5 149 (a9y []) (fun _ _=>.os 54 4 0 0) rfl rfl (fun j hj=>.inl ⟨by omega,rfl⟩) (by decide) (by decide) (c':=5) rfl).wp ?_
 refine a0n (α:=Nat×List Sg×Nat×Nat) (fun x c=>⟨55,[(0,.v (a0p s)),(2,.v (.pt 2 0 0 0)),(3,.v (.pt 3 1 0 0)),(4,.v (.pt 4 2 0 0)),(5,.v (.pt 9001 3 0 0))],[(9001,rdO 3 s x.1),(2,cell1 0 139 (.os 54 x.2.2.1 0 x.2.2.2)),(3,cell1 1 3 (a0h 0)),(4,cell1 2 27 (a0h 0)),(54,⟨x.2.2.1,x.2.2.2,5,149,0,a9y x.2.1⟩)],c⟩) (fun x=>x.1≤s.length∧x.2.1.length≤200∧x.2.2.2=x.2.1.length∧a4D s x.1 x.2.1=lexV s) (fun x=>s.length - x.1) ((0,[],4,0)) (by exact ⟨Nat.zero_le _,Nat.zero_le _,rfl,hV⟩) (a0c rfl (Nat.le_refl _) tsa (a0k.cons rfl (a2X (.refl _) (.refl _)) (hsr rfl (a0k.cons rfl (b1T (.refl _)) (a0k.cons rfl (b1T (.refl _)) hsa))))) (fun x c hx NhL1 hL1=>?_)
 revert hx hL1;obtain ⟨i,out,gl,n⟩:=x;intro hx hL1;dsimp only at hx hL1 ⊢
 obtain ⟨hi,hol,hn,hL⟩:=hx
 refine ru 3 ?_
 refine a0n (α:=Nat) (fun x c=>⟨55,[(0,.v (a0p s)),(2,.v (.pt 2 0 0 0)),(3,.v (.pt 3 1 0 0)),(4,.v (.pt 4 2 0 0)),(5,.v (.pt 9001 3 0 0))],[(9001,rdO 3 s x),(2,cell1 0 139 (.os 54 gl 0 n)),(3,cell1 1 3 (a0h 0)),(4,cell1 2 27 (a0h 0)),(54,⟨gl,n,5,149,0,a9y out⟩)],c⟩) (fun x=>i≤x∧x≤s.length∧a4D s x out=lexV s) (fun x=>s.length - x) (i) (by exact ⟨Nat.le_refl _,hi,hL⟩) (a0c rfl (Nat.le_refl _) tsa hsa) (fun j c hx NhL2 hL2=>?_)
 (try dsimp only at hx hL2 ⊢)
 obtain ⟨hij,hj,hLj⟩:=hx
 refine ru 4 ?_
 refine hq_ 12 (a0B (xs:=[_]) (pre:=[(9001,_)]) (a3N 3 s j hs hj) ⟨rfl,trivial⟩) rfl rfl (a0g rfl a0e) rfl rfl ?_
 refine ru 3 ?_
 refine wdc (fun hr0 hc0=>?_) (fun hr0 hc0=>?_)
 ·skip
  have hlt:j < s.length:=a4o om
  refine ru 14 ?_
  exact hL2 (j+1) _ _ (by (try dsimp only);exact ⟨by omega,hlt,by rw [←b0H hlt hc0];exact hLj⟩) (by (try dsimp only);omega) (a0c rfl (Nat.le_refl _) tsa (a0k.cons rfl (a2X (.refl _) (a0Y om)) hsa))
 refine ru 2 ?_
 refine a0d ?_
 refine ru 14 ?_
 refine wdc (fun hr1 hc1=>?_) (fun hr1 hc1=>?_)
 ·refine ru 11 ?_
  refine a0f ?_
  refine ru 1 ?_
  refine c2x ⟨rfl,rfl⟩ (c4b _ 0 1 2 gl n (a9y out) (fun i j=>c1I _ j) 0 0) (a0g rfl (a0g rfl (a0g rfl (a0g rfl a0e)))) (fun x kp c' h=>by obtain ⟨_,_,h,_⟩:=h;cases h) (fun r kp c' h=>?_);obtain ⟨_,_,hr,hk⟩:=h;subst hk
  refine a5f rfl (a0Q rfl rfl ty_139.h rqc rfl rfl) (a0Q rfl rfl ty_3.h rqc rfl rfl) (a0Q rfl rfl ty_27.h rqc rfl rfl) [(54,_)] rfl (a0g rfl a0e) ?_
  have e:lexV s=.ok out:=(by rw [←hLj];exact a7Z om);rw [e];exact a1r (a1x (l:=out) (enc:=sgF) (d:=default) (List.mem_cons_self ..) rfl hn (Nat.le_refl _) (fun i j hi hj=>b3K _ j)) (.imm _) (.imm _)
 have hjl:j < s.length:=om
 refine ru 10 ?_
 refine wdc (fun hr2 hc2=>?_) (fun hr2 hc2=>?_)
 ·refine ru 4 ?_
  refine hq_ 33 (a0B (xs:=[_]) (pre:=[(9001,_)]) (a3N 3 s j hs hj) ⟨rfl,trivial⟩) rfl rfl (a0g rfl a0e) rfl rfl ?_
  refine ru 6 ?_
  refine cll (b3z _) ?_
  refine ru 3 ?_
  first
  | refine stg 37 (fun hb=>a0i (xs:=[_,_]) (a7V [40,41,124,42,43,63,123] (s.getD j 0)) ⟨rfl,⟨rfl,trivial⟩⟩ ⟨(Fz.eq rfl),⟨(Fz.eq (by rw [a3R hjl])),trivial⟩⟩) rfl rfl rfl rfl rfl ?_
  | refine sth 37 (fun hb=>a0i (xs:=[_,_]) (a7V [40,41,124,42,43,63,123] (s.getD j 0)) ⟨rfl,⟨rfl,trivial⟩⟩ ⟨(Fz.eq rfl),⟨(Fz.eq (by rw [a3R hjl])),trivial⟩⟩) rfl rfl rfl rfl rfl ?_
  refine ru 4 ?_
  refine wdc (fun hr3 hc3=>?_) (fun hr3 hc3=>?_)
  ·skip
   have hb:a4P (bz s j)=false:=(by have h:=hr3;rw [a3R hjl] at h;rw [b1d] at h;rw [a3R hjl];simpa using h)
   refine ru 2 ?_
   refine a2u (xs:=[_]) (pre:=[(9001,_)]) (b2Y _ 3 s j hs hj) ⟨rfl,trivial⟩ (a0g rfl a0e) (fun y c1 hy=>?_)
   refine (a0O (a0O (a2j (a0O (a2j ?_)))))
   exact b3x (by rw [←hLj,hy];exact b1y hjl hc0 om hb) rfl rfl rfl rfl rfl rfl rfl
  have hb:a4P (bz s j)=true:=(by have h:=hr3;rw [a3R hjl] at h;rw [b1d] at h;rw [a3R hjl];simpa using h)
  refine ru 8 ?_
  refine a2u (xs:=[_,_,_]) (pre:=[(9001,_)]) (b1u _ 3 s j _ _) ⟨rfl,⟨rfl,⟨rfl,trivial⟩⟩⟩ (a0g rfl a0e) (fun y c2 hy=>?_)
  refine (a0O (a2j (a0O (a2j ?_))))
  exact b3x (by rw [←hLj,hy];exact a9J hjl hc0 om hb) rfl rfl rfl rfl rfl rfl rfl
 refine ru 2 ?_
 rcases hone:a3Q s j with e | ⟨x,q⟩
 ·refine ru 3 ?_
  exact c3L (xs:=[_]) (pre:=[(9001,_)]) [(2,.v (.pt 2 0 0 0)),(3,.v (.pt 3 1 0 0)),(4,.v (.pt 4 2 0 0))] kr rfl (c1C _ 3 s j hs hj) ⟨rfl,trivial⟩ (a0g rfl a0e) kr kr kr (b3c rfl (b3c rfl (b3c rfl c3V))) kr (fun r kp c' h=>by rcases h with ⟨x,hx,_⟩ | ⟨y,_,hy,_⟩;rw [hone] at hx;cases hx;cases hy) (fun x kp c' h=>by rcases h with ⟨x,hx,he,_⟩ | ⟨y,hy,he,hk⟩;cases he;injection he with he;subst he;subst hk;rw [hone] at hy;injection hy with hy;(repeat (first | with_reducible refine a0O ?_ | with_reducible refine a2j ?_));exact b3x (by rw [←hLj,←hy];exact b2d hjl hc0 om hone) rfl rfl rfl rfl rfl rfl rfl)
 ·refine ru 3 ?_
  refine c5Y 52 (b9M (xs:=[_]) (pre:=[(9001,_)]) (c5g 3 s j hs hj hone) (b3Q (.head _) rfl b5h) ⟨rfl,trivial⟩) rfl rfl (a0g rfl a0e) rfl rfl (k':=3) rfl ?_
  refine a2f 53 (a0b (id:=53) (hs:=[_]) ei_139.h omx rfl omx ⟨rfl,rfl,rfl,rfl,trivial⟩) rfl rfl a0e rfl rfl (k':=4) rfl ?_
  first
  | refine a2f 54 (a0a ei_139.h omy rfl omy omy (a0u rfl omy) omy rfl) rfl rfl (a0g rfl (a0C rfl)) rfl rfl (k':=5) rfl ?_
  | refine a2f 54 (a0a ei_139.h omy rfl omy omy (a0G rfl omy) omy rfl) rfl rfl (a0g rfl (a0C rfl)) rfl rfl (k':=5) rfl ?_
  | refine a2f 54 (a0a ei_139.h omy rfl omy omy (a0F rfl) omy rfl) rfl rfl (a0g rfl a0e) rfl rfl (k':=5) rfl ?_
  | refine a2f 54 (a0a ei_139.h omy rfl omy omy (a0w 5 (fun _ _=>default) rfl) omy rfl) rfl rfl (a0g rfl a0e) rfl rfl (k':=5) rfl ?_
  refine ru 3 ?_
  have hq:=a6O hone
  exact hL1 ((q,out++[x],c+4,n+1)) _ _ (by (try dsimp only);exact ⟨hq.2,by rw [List.length_append];show out.length+1≤200;omega,by rw [List.length_append,hn];rfl,by rw [←a9P hjl hc0 om hone];exact hLj⟩) (by (try dsimp only);omega) (a0c rfl (Nat.le_refl _) tsa (hsr rfl (hsr rfl (hsr rfl (hsr rfl (a0k.cons rfl (a5M.of fun i j hi hj=>a9j (l:=out) (k:=[x]) (enc:=sgF) (d:=default) hn (fun i j _ _=>.refl _) (b0W (x:=x) (enc:=sgF) (d:=default) (fun j hj=>by match j,hj with | 0,_=>exact .refl _ | 1,_=>exact .refl _ | 2,_=>exact .refl _ | 3,_=>exact .refl _ | 4,_=>exact .refl _)) i j (by rw [List.length_append,←hn];exact hi) hj) a0k.nil))))))
section
variable {P:Program}
theorem a8R (w:World) (t u ty e:TypeId) (i:TypeInfo) (ht:P.underlying t=some (.slice e)) (hu:P.underlying u=some .string) (hi:P.info? e=some i) (hz:i.zero=some (.int .u8 0))
    (hsize:i.size=1) (hby:i.bytes=1) (v:Value) (n:Nat) (xs:List Value) (hown:w.ownsRow 0 e 1 v n xs) (s:ByteArray) (h63:n+s.size≤2000000000) :
    ∃ v' w', (Builtin.append_ #[t, u] ty #[v, .string s]).run P w = .ok v' w' ∧ w'.ownsRow 0 e 1 v' (n + s.size) (xs ++ Lib.strCells s) ∧ w.grownBy w' v.ownBlock ∧
      (v'.ownBlock=v.ownBlock∨(v'.ownBlock=some w.heap.size∧w.grownBy w' none)):=by
  obtain ⟨v',w',hrun,h2,h3,h4⟩:=Lib.run_append_own_string (P:=P) (w:=w) 0 t u ty e i ht hu hi hz hsize hby v n xs hown s (by unfold maxLen;omega) (by omega) (Nat.zero_le _)
  refine ⟨v',w',hrun,h2,h3,?_⟩
  have hxl:xs.length=n:=by simpa using hown.1
  rcases hown.2 with ⟨rfl,rfl⟩ | ⟨g,cap,cur,rfl,hbg,hg,hnc,hcm,hcs,htake⟩
  · by_cases hm:s.size=0
    · have:=h4.2 ⟨rfl,hm⟩
      subst this
      exact .inl rfl
    · have hr:=run_append_nil_string (P:=P) w t u ty e i (.int .u8 0) ht hu hi hz s (by omega) (by omega) (by rw [hby];omega)
      rw [hr] at hrun
      injection hrun with hv hw
      subst hv
      exact .inr ⟨rfl,h3⟩
  · by_cases hroom:n+s.size≤cap
    · have hcs':cur.size=cap:=by simpa using hcs
      have hr:=Lib.run_append_room_string (P:=P) (w:=w) t u ty e i ht hu hi hsize g n cap cur hg s hroom (by omega)
      rw [hr] at hrun
      injection hrun with hv hw
      subst hv
      exact .inl rfl
    · have holds:∀ j u,xs[j]?=some u→w.cell? ((⟨g,0,none⟩:Addr).add j)=some u:=hown.cells (g:=g) rfl
      have hr:=Lib.run_append_grow_string (P:=P) (w:=w) t u ty e i (.int .u8 0) ht hu hi hz ⟨g,0,none⟩ n cap xs (by rw [hsize];simpa using hxl) holds s (by omega) (by omega) (by rw [hby];exact growslice_fits (by omega) (by omega))
      rw [hr] at hrun
      injection hrun with hv hw
      subst hv;subst hw
      exact .inr ⟨rfl,rfl,rfl,rfl,by simp,fun k hk _=>heap_alloc_old w.drew _ hk⟩
end
section
variable {P:Program} {ov:Nat→Option HV} {g:Nat} {d:Option Tmp} {ty T U:TypeId} {pos:String} {af:Array Edge} {gd:Option (Nat×Bool)} {x y:Operand}
theorem a9e {id gg m n fl:Nat} {e:TypeId} {f:Nat→Nat→HV} (l:List UInt8) (hT:elInfo P T=some (e,1,1,true)) (hz8:((P.info? e).bind (·.zero))=some (.int .u8 0)) (hU:P.underlying U=some .string) (h1:ovl ov x=some (.os id gg 0 m)) (h2:ovl ov y=some (a0p l)) (hm:m≤n) (hfl:fl≤m)
    (hk:m+l.length≤2000000000) {m':Nat} (hm':m+l.length=m') :
    HOp P ⟨d,.call ⟨.builtin .append,#[x,y],#[T,U]⟩,ty,pos,af,gd⟩ ov g [(id,⟨gg,n,1,e,fl,f⟩)] (.os id g 0 m') [(id,⟨g,m',1,e,fl,cat m f (fun i _=>u8V (l.getD i 0))⟩)]:=by
  subst hm'
  refine ⟨?_⟩;intro K w0 F0 E hh a w Q N r ht hG hBd hpre hN
  have ho:=hpre _ (List.mem_cons_self ..)
  simp only at ho
  have hX:=ht x _ (by simp [Op.operands,Call.operands]) h1
  have hY:=Rep.imm_inv (ht y _ (by simp [Op.operands,Call.operands]) h2)
  obtain ⟨hu,i,z,hi,hz,his,hib,hzs,_⟩:=a5X hT
  have hz':i.zero=some (.int .u8 0):=by rw [hi] at hz8;simpa using hz8
  obtain ⟨lc,xs,hl,hown,hcap,hxs⟩:=r.owns ho m hm hfl
  obtain ⟨l',hl',at_⟩:=r.obj id _ ho
  rw [hl] at hl';injection hl' with hl';subst hl'
  generalize hρ:a.eval x=u at hX
  cases hX with
  | os A1 _ c1 _ _ _ hgg hc hmm hA hz0 =>
    obtain ⟨rfl,rfl⟩:=b4q (hz0 lc hl at_.g)
    obtain ⟨v',w',hrun,h2,h3,h4⟩:=a8R (P:=P) w T U ty e i hu hU hi hz' his hib _ m xs hown ⟨l.toArray⟩ (by rw [a2J];exact hk)
    rw [a2J] at h2
    obtain ⟨E',e',r',hg',hrep⟩:=r.append id _ lc ho hl m l.length g hm hfl hG (fun i _=>u8V (l.getD i 0)) xs (Lib.strCells ⟨l.toArray⟩) hown hxs (by rw [Lib.strCells_length,a2J];simp) (fun p j hp hj=>by
      obtain rfl:j=0:=by simpa using hj
      refine ⟨.int .u8 ((l.getD p 0).toNat:Int),?_,.imm _⟩
      simp [Lib.strCells,List.getD_eq_getElem?_getD,hp]) (Lib.strCells_oneCell _) hcap v' h2 h3 h4
    refine a3J (v:=v') (w':=w') ?_ (hN v' w' E' e' r' (fun g' h=>(hg' g' h).imp (fun h=>h) fun h=>⟨by simp,h⟩) hrep)
    simp only [execOp,resolve,invoke,builtin,Sem.run_bind,Sem.run_pure,Result.andThen_ok,List.map_toArray,List.map_cons,List.map_nil,hρ,hY,hrun]
end
section
variable {K:Nat→Prop} {w0 w:World} {F0:Addr→Prop} {E:Env} {h:Nat→Option HObj}
theorem R.retell (r:R K w0 F0 E h w) (id:Nat) {g n sz:Nat} {ty:TypeId} {fl:Nat} {f f':Nat→Nat→HV} (ho:h id=some ⟨g,n,sz,ty,fl,f⟩)
    (hc:∀ l b cs,E.L id=some l→l.A=some b→Blk w b ty cs→∀ i j u,i < n→j < sz→cs[i * sz+j]?=some u→Rep w E u (f i j)→Rep w E u (f' i j)) (hfn:fl≤n:=by first | exact Nat.zero_le _ | exact Nat.le_refl _ | omega):R K w0 F0 E (a2Q h id ⟨g,n,sz,ty,fl,f'⟩) w :=
  { r with
    obj:=fun k o hk=>by
      by_cases e:k=id
      · subst e
        rw [a1e] at hk;injection hk with hk;subst hk
        obtain ⟨l,hl,a⟩:=r.obj k _ ho
        refine ⟨l,hl,a.g,a.G,a.sz,a.pos,?_⟩
        rcases a.at_ with h0 | ⟨b,cs,g1,g2,g3,g4,g5,g6,⟨vs,g8⟩,g9⟩ | ⟨_,_,_,_,h3,_⟩
        rotate_right
        · have h7:=h3.n;have h8:=h3.fl;simp only at h7 h8;omega
        · exact .inl h0
        · exact .inr (.inl ⟨b,cs,g1,g2,g3,g4,g5,g6,⟨vs,fun i j hi hj=>⟨(g8 i j hi hj).1,(g8 i j hi hj).2.1,hc l b cs hl g1 g2 i j _ hi hj (g8 i j hi hj).1 (g8 i j hi hj).2.2⟩⟩,g9⟩)
      · rw [a0T _ _ e] at hk
        exact r.obj k o hk
    inj:=fun k k' o o' l l' b hk hk' hl hl' hb hb'=>by
      have old:∀ k o,a2Q h id ⟨g,n,sz,ty,fl,f'⟩ k=some o→∃ o,h k=some o:=by
        intro k o hk
        by_cases e:k=id
        · subst e;exact ⟨_,ho⟩
        · rw [a0T _ _ e] at hk;exact ⟨o,hk⟩
      obtain ⟨p,hp⟩:=old k o hk
      obtain ⟨q,hq⟩:=old k' o' hk'
      exact r.inj k k' p q l l' b hp hq hl hl' hb hb' }
end
@[reducible] def c6f (g g2 n:Nat):Nat→Nat→HV:=fun _ j=>match j with | 0=>.nps 8001 g | _=>.os 8002 g2 0 n
@[reducible] def c6j (l:List UInt8):Nat→Nat→HV:=fun i _=>u8V (l.getD i 0)
@[reducible] def b0Q (g g2 n:Nat):HObj:=⟨g,1,2,62,0,c6f g g2 n⟩
@[reducible] def b6u (g2 n:Nat) (l:List UInt8):HObj:=⟨g2,n,1,5,0,c6j l⟩
theorem c0q:zcs Tryz.prog 62=some [.pointer none,.slice none 0 0]:=by kernel_rfl
theorem c1d {C:Ctx} {ops:Array Oper} {Q:Exit→Act→World→Prop} {n clk:Nat} {tm:List (Nat×TV)} {hp:List (Nat×HObj)} {rest:List Oper} {ty:TypeId} {pos:String} {af:Array Edge} (d:Nat) (hlt:Nat.blt d n=true) (hk:a1b tm d=true) {c':Nat} (hc':clk+2=c')
    (h:HSeq C Tryz.prog ops rest ⟨n,(d,.v (.pt 8001 clk 0 0))::tm,(8001,b0Q clk (clk+1) 0)::(8002,b6u (clk+1) 0 [])::hp,c'⟩ Q) :
    HSeq C Tryz.prog ops (⟨some d,.alloc 62,ty,pos,af,none⟩::rest) ⟨n,tm,hp,clk⟩ Q:=by
  subst hc'
  intro a w ⟨E,e0,r,hG,hsz,hdf,ht⟩
  have hlt:d < n:=by simpa [Nat.blt_eq] using hlt
  unfold a7b
  rw [if_pos (by simp [Region.wanted])]
  left
  obtain ⟨z,hz1,hz2⟩:=Option.map_eq_some_iff.1 c0q
  obtain ⟨i,hi,hz⟩:=Option.bind_eq_some_iff.1 hz1
  have hcs:z.cells=#[.pointer none,.slice none 0 0]:=by apply Array.ext';exact hz2
  have hG:∀ g,E.G g→g < clk:=hG
  have hG0:¬ E.G clk:=fun hg=>absurd (hG _ hg) (Nat.lt_irrefl _)
  obtain ⟨e1,r1⟩:=r.new 8001 clk 1 2 62 z.cells (fun _ j=>match j with | 0=>.imm (.pointer none) | _=>.imm (.slice none 0 0)) 1 (fun _ j=>match j with | 0=>.pointer none | _=>.slice none 0 0) hG0 (by omega) (by rw [hcs];rfl) (Nat.le_refl _) (by unfold maxLen;omega) (fun i j hi hj=>by
    obtain rfl:i=0:=by omega
    rw [hcs]
    match j,hj with
    | 0,_=>exact ⟨rfl,rfl,.imm _⟩
    | 1,_=>exact ⟨rfl,rfl,.imm _⟩)
  have hG1:¬ (E.new 8001 clk w.heap.size 1 2).G (clk+1):=fun hg=>by
    rcases hg with hg | hg
    · exact absurd (hG _ hg) (by omega)
    · omega
  obtain ⟨e2,r2⟩:=r1.newNil 8002 (clk+1) 1 5 (c6j []) hG1 (by omega)
  have hL:((E.new 8001 clk w.heap.size 1 2).place 8002 ⟨clk+1,none,0,1⟩).L 8001=some ⟨clk,some w.heap.size,1,2⟩:=by
    rw [Env.place_Lne _ _ (by decide)];exact Env.new_L ..
  have r3:=r2.retell 8001 (g:=clk) (n:=1) (sz:=2) (ty:=62) (fl:=0) (f':=c6f clk (clk+1) 0) (by rw [a0T _ _ (by decide),a1e]) (fun l b cs hl hb hB i j u hi hj hu hr=>by
    match j,hj with
    | 0, _ =>
      rw [hr.imm_inv]
      exact .npn 8001 clk (.inl (.inr rfl)) (fun l hl _=>by rw [hL] at hl;injection hl with hl;subst hl;rfl)
    | 1, _ =>
      rw [hr.imm_inv]
      refine .os none 0 0 8002 (clk+1) 0 (.inr rfl) (Nat.le_refl _) (Nat.zero_le _) (fun h=>absurd h (Nat.lt_irrefl _)) (fun l hl _=>?_)
      rw [Env.place_L] at hl;injection hl with hl;subst hl
      exact ⟨rfl,fun _=>rfl⟩)
  refine a3J (v:=.pointer (some ⟨w.heap.size,0,none⟩)) (w':=w.alloc (.cells z.cells 62)) ?_ ?_
  · simp [execOp,Instr.alloc,zeroValue,typeInfo,hi,hz,newVar,newRow]
  · refine h _ _ ⟨_,e0.trans (e1.trans e2),?_,fun g hg=>?_,by simp [Act.put,hsz],hdf.ext (e1.trans e2),fun t y hy=>?_⟩
    · refine r3.less (fun id o ho=>?_)
      simp only [a1m] at ho
      by_cases h1:id=8001
      · subst h1;rw [a1e] at ho ⊢;exact ho
      · rw [a0T _ _ h1] at ho ⊢
        by_cases h2:id=8002
        · subst h2;rw [a1e] at ho ⊢;exact ho
        · rw [a0T _ _ h2] at ho ⊢
          rw [a0T _ _ h1];exact ho
    · rcases hg with (hg | hg) | hg
      · exact Nat.lt_of_lt_of_le (hG g hg) (by show clk≤clk+2;omega)
      · show g < clk+2;omega
      · have hg:g=clk+1:=hg
        show g < clk+2;omega
    · simp only [a0z] at hy
      split at hy
      · rename_i htd
        subst htd
        injection hy with hy
        subst hy
        rw [a0L (by rw [hsz];exact hlt)]
        refine .pt _ _ 8001 clk 0 0 (.inl (.inr rfl)) (fun l hl _=>?_)
        rw [hL] at hl;injection hl with hl;subst hl
        exact ⟨rfl,by simp⟩
      · rename_i htd
        rw [a0E htd]
        have:=(ht t y hy).ext (e1.trans e2)
        cases y with
        | v z=>exact this
        | un j b z =>
          have hne:=a2B hk t j b z hy
          simp only [TVRep,a0E hne] at this ⊢;exact this
theorem b9G (w:World) (E:Env):Rep w E (.tuple #[]) (.tup 0 fun _=>default):=.tup #[] 0 (fun _=>default) (fun _=>undef) rfl (fun i hi=>absurd hi (Nat.not_lt_zero _)) (fun i hi=>absurd hi (Nat.not_lt_zero _))
theorem c1r (c g g2 n:Nat):a3c Tryz.prog 50 c [.pt 8001 g 0 0] [(8001,b0Q g g2 n)]
    (a4W (fun (_:Unit) c'=>c'=c) (fun _=>.tup 0 fun _=>default) (fun _=>[(8001,b0Q g g2 n)])):=by
  refine ⟨⟨_,_,Tryz.func50,rfl,by kernel_rfl⟩,fun X vs ok hX hr hG=>?_⟩
  match vs,hr with
  | [v],hr =>
  have hv:=hr.1
  have ho:X.h 8001=some (b0Q g g2 n):=ok.pre 8001 _ (by rw [hX];rfl)
  obtain ⟨l,bl,cs,hl,hlg,hlsz,hlA,hB,hcs,hnc,hm,vs,hvs⟩:=ok.r.objAt ho (by show 0 < 1;omega)
  cases hv with
  | pt b k _ _ _ _ hgg hh =>
    obtain ⟨hb,rfl⟩:=hh l hl hlg
    rw [hlA] at hb;injection hb with hb;subst hb
    rw [show 0 * l.sz+0=0 from by simp]
    have c0:=hvs 0 0 (by show 0 < 1;omega) (by show 0 < 2;omega)
    have k0:cs[0]?=some (vs 0 0):=c0.1
    have hrep:Rep X.w X.E (vs 0 0) (.nps 8001 g):=c0.2.2
    have hself:∀ w',Rep w' X.E (.pointer (some ⟨bl,0,none⟩)) (.pt 8001 g 0 0):=fun w'=>.pt _ _ 8001 g 0 0 hgg (fun l' hl' hlg'=>by
      obtain ⟨h1,h2⟩:=hh l' hl' hlg'
      exact ⟨h1,by simp⟩)
    have hcell:X.w.cell? ⟨bl,0,none⟩=some (vs 0 0):=by rw [hB.cell];exact k0
    have hpost:∀ w',Ext X.w X.E w' X.E→R X.K X.w0 X.F0 X.E (hupd X.h [(8001,b0Q g g2 n)]) w'→a1p X (a4W (fun (_:Unit) c'=>c'=c) (fun _=>.tup 0 fun _=>default) (fun _=>[(8001,b0Q g g2 n)])) (.returned (.tuple #[])) w' :=
      fun w' e r=>⟨_,_,c,X.E,⟨(),rfl,rfl,rfl⟩,e,r,hG,fun _ h=>.inl h,b9G _ _⟩
    generalize hq:vs 0 0=u at hrep k0 hcell
    cases hrep with
    | npn _ _ _ hcap =>
      have h1:=hcap l hl hlg
      have hsize:cs.size=2:=by rw [hcs,h1];rfl
      have hsh:X.w.shape? bl=some (62,2):=by
        unfold World.shape?
        have:=hB
        unfold Blk at this
        rw [this]
        simp [hsize]
      have hfz:X.w.frozen? ⟨bl,0,none⟩=false:=hB.frozen _
      refine (Any.Builder_copyCheck_fresh Tryz.bld240 Tryz.bldX240 bl X.w hcell hsh hfz).mono ?_
      rintro e w' ⟨rfl,rfl⟩
      obtain ⟨e',r'⟩:=ok.r.store 8001 _ l bl ho hl hlA 0 0 [.pointer (some ⟨bl,0,none⟩)] (fun _=>.nps 8001 g) (by show 0 < 1;omega) (Nat.le_refl _) (by show 0+1≤2;omega) (fun j u hu=>by
        match j,hu with
        | 0,hu=>simp at hu;subst hu;exact ⟨rfl,.npp _ _ _ hgg hcap (hself _)⟩)
      refine hpost _ e' (r'.weak (fun id o' ho'=>?_))
      have ho':a2Q X.h 8001 (b0Q g g2 n) id=some o':=ho'
      by_cases hid:id=8001
      · subst hid
        rw [a1e] at ho';injection ho' with ho';subst ho'
        refine ⟨_,a1e ..,rfl,rfl,rfl,rfl,Nat.le_refl _,fun i j hi hj=>?_,fun h=>absurd h (by show ¬ (1 < 0);omega)⟩
        simp only at hi hj
        obtain rfl:i=0:=by omega
        match j,hj with
        | 0,_=>exact .refl _
        | 1,_=>exact .refl _
      · rw [a0T _ _ hid] at ho'
        exact ⟨o',by rw [a0T _ _ hid];exact ho',.refl _⟩
    | npp _ _ _ _ _ hp =>
      cases hp with
      | pt b' k' _ _ _ _ _ hh' =>
        obtain ⟨hb',hk'⟩:=hh' l hl hlg
        rw [hlA] at hb';injection hb' with hb';subst hb'
        have hk0:k'=0:=by rw [hk'];simp
        subst hk0
        refine (Any.Builder_copyCheck_used Tryz.bld240 Tryz.bldX240 bl X.w hcell).mono ?_
        rintro e w' ⟨rfl,rfl⟩
        refine hpost _ (Ext.refl _ _) (ok.r.less (fun id o ho'=>?_))
        have ho':a2Q X.h 8001 (b0Q g g2 n) id=some o:=ho'
        by_cases hid:id=8001
        · subst hid;rw [a1e] at ho';rw [ho];exact ho'
        · rwa [a0T _ _ hid] at ho'
theorem b7w {w0:World} {F:Addr→Prop} {ops:Array Oper} {Q:Exit→Act→World→Prop} {n clk:Nat} {tm:List (Nat×TV)} {hp:List (Nat×HObj)} {rest:List Oper} {ty:TypeId} {pos:String} {af:Array Edge} {at_:Array TypeId} {x:Operand} (d g g2 m:Nat) (l:List UInt8)
    (hx:ovl (a0P (tget tm)) x=some (.pt 8001 g 0 0)) (h1:hget hp 8001=some (b0Q g g2 m)) (h2:hget hp 8002=some (b6u g2 m l)) (hm:m=l.length) (hlt:Nat.blt d n=true)
    (h:HSeq (Ctx.top w0 F) Tryz.prog ops rest ⟨n,[(d,.v (a0p l))],[],clk⟩ Q) :
    HSeq (Ctx.top w0 F) Tryz.prog ops (⟨some d,.call ⟨.value (.func 28),#[x],at_⟩,ty,pos,af,none⟩::rest) ⟨n,tm,hp,clk⟩ Q:=by
  intro a w ⟨E,e0,r,hG,hsz,hdf,ht⟩
  have hlt:d < n:=by simpa [Nat.blt_eq] using hlt
  unfold a7b
  rw [if_pos (by simp [Region.wanted])]
  left
  have hv:Rep w E (a.eval x) (.pt 8001 g 0 0):=by
    cases x with
    | tmp t =>
      simp only [ovl,a0P] at hx
      cases hq:tget tm t with
      | none=>rw [hq] at hx;cases hx
      | some u => rw [hq] at hx; cases u with
        | v y=>injection hx with hx;subst hx;exact ht t _ hq
        | un j b y=>cases hx
    | const v=>exact a4g w E _ v _ hx
    | global k=>cases hx
    | func f=>cases hx
  obtain ⟨lc,bl,cs,hl,hlg,hlsz,hlA,hB,hcs,hnc,hmx,vs,hvs⟩:=r.objAt h1 (by show 0 < 1;omega)
  have notK:∀ id o l b,hget hp id=some o→E.L id=some l→l.A=some b→w0.heap.size≤b:=by
    intro id o l b ho hl hb
    obtain ⟨l',hl',at_⟩:=r.obj id o ho
    rw [hl] at hl';injection hl' with hl';subst hl'
    rcases Nat.lt_or_ge b w0.heap.size with hlt | hge
    · exact absurd trivial (at_.notK hb hlt)
    · exact hge
  generalize hρ:a.eval x=u at hv
  cases hv with
  | pt b k _ _ _ _ hgg hh =>
    obtain ⟨hb,rfl⟩:=hh lc hl hlg
    rw [hlA] at hb;injection hb with hb;subst hb
    rw [show 0 * lc.sz+0=0 from by simp] at hρ
    have hBl:=notK 8001 _ lc bl h1 hl hlA
    have c0:=hvs 0 0 (by show 0 < 1;omega) (by show 0 < 2;omega)
    have c1:=hvs 0 1 (by show 0 < 1;omega) (by show 1 < 2;omega)
    have k0:cs[0]?=some (vs 0 0):=c0.1
    have k1:cs[1]?=some (vs 0 1):=c1.1
    have r0:Rep w E (vs 0 0) (.nps 8001 g):=c0.2.2
    have r1:Rep w E (vs 0 1) (.os 8002 g2 0 m):=c1.2.2
    obtain ⟨l2,xs,hl2,hown,hcap2,hxs⟩:=r.owns h2 m (Nat.le_refl _) (Nat.zero_le _)
    obtain ⟨l2',hl2',at2⟩:=r.obj 8002 _ h2
    rw [hl2] at hl2';injection hl2' with hl2';subst hl2'
    have hbuf:vs 0 1=.slice (l2.A.map fun b=>⟨b,0,none⟩) m l2.cap:=by
      generalize vs 0 1=u at r1
      cases r1 with
      | os A1 _ c1 _ _ _ hgg hc hmm hA hz0 =>
        obtain ⟨rfl,rfl⟩:=b4q (hz0 l2 hl2 at2.g)
        rfl
    have hxsl:xs=Lib.byteCells l:=by
      have hxl:xs.length=m:=by simpa using hown.1
      apply List.ext_getElem?
      intro p
      by_cases hp:p < m
      · obtain ⟨u,h1,_,h3⟩:=hxs p 0 hp (by show 0 < 1;omega)
        have h3:Rep w E u (u8V (l.getD p 0)):=h3
        rw [h3.imm_inv] at h1
        have h1:xs[p * 1+0]?=_:=h1
        rw [Nat.mul_one,Nat.add_zero] at h1
        rw [h1]
        simp [Lib.byteCells,List.getD_eq_getElem?_getD,show p < l.length from by omega]
      · rw [List.getElem?_eq_none (by omega),List.getElem?_eq_none (by rw [Lib.byteCells_length];omega)]
    have hbase:w.ownsRow w0.heap.size 5 1 (.slice (l2.A.map fun b=>⟨b,0,none⟩) m l2.cap) m (Lib.byteCells l):=by
      rw [←hxsl]
      refine ⟨hown.1,?_⟩
      rcases hown.2 with h0 | ⟨g',cap,cur,hv,_,r⟩
      · exact .inl h0
      · refine .inr ⟨g',cap,cur,hv,?_,r⟩
        injection hv with hv _ _
        cases hA2:l2.A with
        | none=>rw [hA2] at hv;cases hv
        | some b2 =>
          rw [hA2] at hv
          injection hv with hv
          injection hv with hv
          subst hv
          exact notK 8002 _ l2 b2 h2 hl2 hA2
    have hne:∀ b,l2.A=some b→bl≠b:=by
      intro b hb he
      subst he
      exact absurd (r.inj 8001 8002 _ _ lc l2 bl h1 h2 hl hl2 hlA hb) (by decide)
    have hcap1:lc.cap=1∧(vs 0 0=.pointer none∨vs 0 0=.pointer (some ⟨bl,0,none⟩)):=by
      generalize vs 0 0=u at r0
      cases r0 with
      | npn _ _ _ hc=>exact ⟨hc lc hl hlg,.inl rfl⟩
      | npp _ _ _ _ hc hp =>
        refine ⟨hc lc hl hlg,.inr ?_⟩
        cases hp with
        | pt b' k' _ _ _ _ _ hh' =>
          obtain ⟨hb',hk'⟩:=hh' lc hl hlg
          rw [hlA] at hb';injection hb' with hb';subst hb'
          have hk0:k'=0:=by rw [hk'];simp
          rw [hk0]
    have hcs2:cs=#[vs 0 0,vs 0 1]:=by
      apply Array.ext_getElem?
      intro i
      match i with
      | 0=>exact k0
      | 1=>exact k1
      | i+2=>rw [Array.getElem?_eq_none (by rw [hcs,hcap1.1];show 1 * 2≤i+2;omega),Array.getElem?_eq_none (by simp)]
    have hat:∀ p,vs 0 0=p→Lib.BuilderAt 62 5 w0.heap.size bl p (Lib.byteCells l) w:=by
      rintro p rfl
      refine ⟨hBl,vs 0 1,?_,?_,?_⟩
      · have:=hB
        unfold Blk at this
        rw [this,hcs2]
      · rw [hbuf,Lib.byteCells_length,←hm];exact hbase
      · rw [hbuf]
        cases hA2:l2.A with
        | none=>simp [Value.ownBlock]
        | some b2 =>
          intro he
          have:bl=b2:=by simp [Value.ownBlock] at he;exact he.symm
          exact hne b2 hA2 this
    have hbuilder:Lib.IsBuilder 62 5 w0.heap.size bl (Lib.byteCells l) w:=hcap1.2.imp (fun h=>hat _ h) (fun h=>hat _ h)
    have hfn:c1n Tryz.prog 28:=⟨_,_,Tryz.func28,rfl,by kernel_rfl⟩
    unfold Oper.wp execOp
    have hargs:(#[x]:Array Operand).map a.eval=#[.pointer (some ⟨bl,0,none⟩)]:=by simp [hρ]
    simp only [resolve,Act.eval,Deferred.ofValue,invoke,Sem.run_bind,Sem.run_pure,Result.andThen_ok,Array.empty_append,Array.append_empty]
    rw [a0U hfn]
    simp only [Oper.upon]
    rw [show (#[x]:Array Operand).map (fun x=>a.eval x)=#[.pointer (some ⟨bl,0,none⟩)] from hargs]
    refine (Tryz.Builder_String_any w0.heap.size bl l w hbuilder r.size).mono ?_
    rintro e w' ⟨rfl,hb⟩
    have hb0:Below w0.heap.size w0 w':=by
      refine ⟨hb.os.trans r.os,hb.tape.trans r.tape,hb.output.trans r.output,Nat.le_trans r.size hb.size,fun k hk=>(hb.block k hk).trans (r.keep k hk trivial)⟩
    have hFc:∀ p,F p→(w0.cell? p).isSome=true:=fun p hp=>by
      have h1:E.F p∧w.cell? p=w0.cell? p:=e0.F p hp
      rw [←h1.2];exact (r.frz p h1.1).2
    have hFs:∀ p,F p→p.spot=none∧p.block < w0.heap.size:=fun p hp=>⟨(r.frz p (e0.F p hp).1).1,a1a (hFc p hp)⟩
    have hex:Ext w0 (Env.just F) w' (Env.just F):=⟨hb0.size,fun p hp=>⟨hp,World.cell?_of_block (hb0.block _ (hFs p hp).2)⟩,fun _ h=>h,fun _ _ h _=>h,fun _ h=>h⟩
    refine h _ w' ⟨Env.just F,hex,⟨hb0.os,hb0.tape,hb0.output,hb0.size,fun k hk _=>hb0.block k hk,fun p hp=>?_,fun p hp=>.inl hp,r.klib,r.lib,(fun b hb=>hb.elim),(fun id o ho=>by cases ho),(fun id id' o o' l l' b ho=>by cases ho)⟩,fun g hg=>hg.elim,by simp [Act.put,hsz],hdf,fun t y hy=>?_⟩
    · exact ⟨(hFs p hp).1,by rw [World.cell?_of_block (hb0.block _ (hFs p hp).2)];exact (hFc p hp)⟩
    · simp only [a0z] at hy
      split at hy
      · rename_i htd
        subst htd
        injection hy with hy
        subst hy
        rw [a0L (by rw [hsz];exact hlt)]
        exact .imm _
      · cases hy
theorem a2w (c g g2 n:Nat) (l:List UInt8) (b:UInt8) (x:Int) (hx:x=(b.toNat:Int)) (hn:n=l.length) (hl:n≤1000000000):a3c Tryz.prog 116 c [.pt 8001 g 0 0,.imm (.int .u8 x)] [(8001,b0Q g g2 n),(8002,b6u g2 n l)]
  (a4W (fun (g3:Nat) _=>True) (fun _=>.imm .nilIface) (fun g3=>[(8001,b0Q g g3 (n+1)),(8002,b6u g3 (n+1) (l++[b]))])):=by
 subst hx
 refine a0v Tryz.func116 rfl kr _ _ _ _ rfl 17 rfl rfl (fun X ok hX=>?_)
 refine ru 8 ?_
 refine a0l 6 (xs:=[_]) (pre:=[(8001,_)]) (c1r _ _ _ _) ⟨rfl,trivial⟩ (a0g rfl a0e) rfl rfl (fun x1 c1 hx1=>?_)
 obtain rfl:=hx1
 (try dsimp only)
 refine ru 10 ?_
 refine a0t 13 (a0b (id:=13) (hs:=[_]) ei_60.h omx rfl omx ⟨rfl,rfl,rfl,rfl,trivial⟩) rfl rfl a0e rfl rfl (c':=c1+1) rfl ?_
 first
 | refine a0t 14 (a0a ei_60.h omy rfl omy omy (a0u rfl omy) omy rfl) rfl rfl (a0g rfl (a0C rfl)) rfl rfl (c':=c1+2) rfl ?_
 | refine a0t 14 (a0a ei_60.h omy rfl omy omy (a0G rfl omy) omy rfl) rfl rfl (a0g rfl (a0C rfl)) rfl rfl (c':=c1+2) rfl ?_
 | refine a0t 14 (a0a ei_60.h omy rfl omy omy (a0F rfl) omy rfl) rfl rfl (a0g rfl a0e) rfl rfl (c':=c1+2) rfl ?_
 | refine a0t 14 (a0a ei_60.h omy rfl omy omy (a0w 1 (fun _ _=>default) rfl) omy rfl) rfl rfl (a0g rfl a0e) rfl rfl (c':=c1+2) rfl ?_
 refine ru 11 ?_
 refine fr1 ok hX rw1 (c1+1) (trivial) (kza) ?_
 exact ⟨⟨_,rfl,b0T kza kza⟩,⟨⟨_,rfl,OKz.of (fun i j hi hj=>.fz _ _ (b8D (l:=l) (k:=[b]) (enc:=fun c _=>u8V c) (d:=0) hn (fun i j _ _=>.imm _) (fun i j hi hj=>by match i,hi with | 0,_=>exact .imm _) i j (by simp;omega) hj))⟩,trivial⟩⟩
theorem a2h (c g g2 n:Nat) (l m:List UInt8) (hn:n=l.length) (hl:n+m.length≤1000000000):a3c Tryz.prog 25 c [.pt 8001 g 0 0,a0p m] [(8001,b0Q g g2 n),(8002,b6u g2 n l)]
  (a4W (fun (g3:Nat) _=>True) (fun _=>t2 (a0h m.length) (.imm .nilIface)) (fun g3=>[(8001,b0Q g g3 (n+m.length)),(8002,b6u g3 (n+m.length) (l++m))])):=by
 refine a0v Tryz.func25 rfl kr _ _ _ _ rfl 19 rfl rfl (fun X ok hX=>?_)
 refine ru 9 ?_
 refine a0l 7 (xs:=[_]) (pre:=[(8001,_)]) (c1r _ _ _ _) ⟨rfl,trivial⟩ (a0g rfl a0e) rfl rfl (fun x1 c1 hx1=>?_)
 obtain rfl:=hx1
 (try dsimp only)
 refine ru 10 ?_
 refine a0t 14 (a9e m ei_60.h kr kr rfl rfl (by first | omega | exact Nat.le_refl _) (Nat.zero_le _) om rfl) rfl rfl (a0C rfl) rfl rfl (c':=c1+1) rfl ?_
 refine ru 14 ?_
 refine fr2 ok hX rw2 (c1) (trivial) (a8m kza kza) ?_
 exact ⟨⟨_,rfl,b0T kza kza⟩,⟨⟨_,rfl,OKz.of (fun i j hi hj=>.fz _ _ (b8D (l:=l) (k:=m) (enc:=fun c _=>u8V c) (d:=0) hn (fun i j _ _=>.imm _) (fun i j _ _=>.imm _) i j (by simp;omega) hj))⟩,trivial⟩⟩
end Go.Proofs.YtjdmfohncgkdoaaGreatDoor
namespace Go.Proofs.YtjdmfohncgkdoaaGreatDoor
set_option linter.unusedSimpArgs false
set_option linter.unusedVariables false
set_option maxRecDepth 100000
open Go.RowKit
open Go.Lib hiding intOf
def a0N (a b:Int):List UInt8 :=
 if a=0∧b=-1 then [42]
 else if a=1∧b=-1 then [43]
 else if a=0∧b=1 then [63]
 else if a=b then [123]++itoa a++[125]
 else if b=-1 then [123]++itoa a++[44,125]
 else [123]++itoa a++[44]++itoa b++[125]
@[reducible] def I64 (n:Int):Prop:=-9223372036854775808≤n∧n≤9223372036854775807
theorem a2r (n:Int) (h:I64 n):(itoa n).length≤21:=itoa_length_le n h.1 h.2
theorem b4i (n:Int) (h:I64 n):a0q Tryz.prog 72 [a0h n] (a0p (itoa n)):=by
 refine ⟨⟨_,_,Tryz.func72,rfl,by kernel_rfl⟩,fun w F vs hF hr hw=>?_⟩
 obtain ⟨v,rfl,hv⟩:=c0Z hr
 rw [hv.imm_inv]
 refine (b3W n h.1 h.2 w (c3t hw)).mono ?_
 rintro e w' ⟨rfl,hb⟩
 exact a3a hF hb
theorem b7t (a b:Int) (ha:I64 a) (hb:I64 b):a0q Tryz.prog 117 [a0h a,a0h b] (a0p (a0N a b)):=by
 have la:=a2r a ha
 have lb:=a2r b hb
 refine a0m Tryz.func117 rfl kr _ _ _ rfl 49 rfl rfl (fun w F=>?_)
 refine ru 18 ?_
 refine wdc (fun hr0 hc0=>?_) (fun hr0 hc0=>?_)
 ·refine ru 8 ?_
  refine rt1 ?_
  rw [show a0N a b=[42] from if_pos hc0];exact .imm _
 have n0:¬ (a=0∧b=-1):=(by have h:=hr0;simpa using h)
 refine ru 11 ?_
 refine wdc (fun hr1 hc1=>?_) (fun hr1 hc1=>?_)
 ·refine ru 8 ?_
  refine rt1 ?_
  rw [show a0N a b=[43] from by unfold a0N;rw [if_neg n0,if_pos hc1]];exact .imm _
 have n1:¬ (a=1∧b=-1):=(by have h:=hr1;simpa using h)
 refine ru 11 ?_
 refine wdc (fun hr2 hc2=>?_) (fun hr2 hc2=>?_)
 ·refine ru 8 ?_
  refine rt1 ?_
  rw [show a0N a b=[63] from by unfold a0N;rw [if_neg n0,if_neg n1,if_pos hc2]];exact .imm _
 have n2:¬ (a=0∧b=1):=(by have h:=hr2;simpa using h)
 refine ru 8 ?_
 refine wdc (fun hr3 hc3=>?_) (fun hr3 hc3=>?_)
 ·refine ru 3 ?_
  refine cll (b4i a ha) ?_
  refine ru 8 ?_
  refine rt1 ?_
  rw [show a0N a b=[123]++itoa a++[125] from by unfold a0N;rw [if_neg n0,if_neg n1,if_neg n2,if_pos hc3]];exact .imm _
 refine ru 7 ?_
 refine wdc (fun hr4 hc4=>?_) (fun hr4 hc4=>?_)
 ·refine ru 3 ?_
  refine cll (b4i a ha) ?_
  refine ru 8 ?_
  refine rt1 ?_
  rw [show a0N a b=[123]++itoa a++[44,125] from by unfold a0N;rw [if_neg n0,if_neg n1,if_neg n2,if_neg hc3,if_pos hc4]];exact .imm _
 refine ru 6 ?_
 refine cll (b4i a ha) ?_
 refine ru 3 ?_
 refine cll (b4i b hb) ?_
 refine ru 6 ?_
 refine rt1 ?_
 rw [show a0N a b=[123]++itoa a++[44]++itoa b++[125] from by unfold a0N;rw [if_neg n0,if_neg n1,if_neg n2,if_neg hc3,if_neg hc4]];exact .imm _
theorem a9G (a b:Int) (ha:I64 a) (hb:I64 b):a0q Tryz.prog 124 [a0h a,a0h b] (a0p (a0N a b)):=by
 have la:=a2r a ha
 have lb:=a2r b hb
 refine a0m Tryz.func124 rfl kr _ _ _ rfl 42 rfl rfl (fun w F=>?_)
 refine ru 16 ?_
 refine wdc (fun hr0 hc0=>?_) (fun hr0 hc0=>?_)
 ·refine ru 7 ?_
  refine rt1 ?_
  rw [show a0N a b=[42] from if_pos hc0];exact .imm _
 have n0:¬ (a=0∧b=-1):=(by have h:=hr0;simpa using h)
 refine ru 13 ?_
 refine wdc (fun hr1 hc1=>?_) (fun hr1 hc1=>?_)
 ·refine ru 7 ?_
  refine rt1 ?_
  rw [show a0N a b=[43] from by unfold a0N;rw [if_neg n0,if_pos hc1]];exact .imm _
 have n1:¬ (a=1∧b=-1):=(by have h:=hr1;simpa using h)
 refine ru 13 ?_
 refine wdc (fun hr2 hc2=>?_) (fun hr2 hc2=>?_)
 ·refine ru 7 ?_
  refine rt1 ?_
  rw [show a0N a b=[63] from by unfold a0N;rw [if_neg n0,if_neg n1,if_pos hc2]];exact .imm _
 have n2:¬ (a=0∧b=1):=(by have h:=hr2;simpa using h)
 refine ru 5 ?_
 refine cll (a6i a ha.1 ha.2) ?_
 refine ru 12 ?_
 refine wdc (fun hr3 hc3=>?_) (fun hr3 hc3=>?_)
 ·refine ru 9 ?_
  refine rt1 ?_
  rw [show a0N a b=[123]++itoa a++[125] from by unfold a0N;rw [if_neg n0,if_neg n1,if_neg n2,if_pos hc3.symm]];exact .imm _
 refine ru 9 ?_
 refine wdc (fun hr4 hc4=>?_) (fun hr4 hc4=>?_)
 ·refine ru 9 ?_
  refine rt1 ?_
  rw [show a0N a b=[123]++itoa a++[44,125] from by unfold a0N;rw [if_neg n0,if_neg n1,if_neg n2,if_neg (Ne.symm hc3),if_pos hc4]];exact .imm _
 refine ru 7 ?_
 refine cll (a6i b hb.1 hb.2) ?_
 refine ru 6 ?_
 refine rt1 ?_
 rw [show a0N a b=[123]++itoa a++[44]++itoa b++[125] from by unfold a0N;rw [if_neg n0,if_neg n1,if_neg n2,if_neg (Ne.symm hc3),if_neg hc4]];exact .imm _
def a0V (x:Sg):List UInt8 :=
 if x.kind=1 then x.name else if x.kind=2 then [40] else if x.kind=3 then [41] else if x.kind=4 then [124] else if x.kind=5 then a0N x.low x.high else []
def b6g (f:Bool) (x:Sg):List UInt8:=if f=false∧x.kind≠5 then [32] else []
def a4V:Bool→List Sg→List UInt8
 | _,[]=>[]
 | f,x::r=>b6g f x++a0V x++a4V false r
def a6N (l:List Sg):List UInt8:=a4V true l
structure SgOk (x:Sg):Prop where
 name:x.name.length≤100
 low:I64 x.low
 high:I64 x.high
theorem b0U (a b:Int) (ha:I64 a) (hb:I64 b):(a0N a b).length≤50:=by
 have la:=a2r a ha
 have lb:=a2r b hb
 unfold a0N
 repeat' split
 all_goals simp
 all_goals omega
theorem a1c {l:List Sg} {k:Nat} {acc S p:List UInt8} (hk:k < l.length) (hL:acc++a4V (decide (k=0)) (l.drop k)=a6N l) (hs:b6g (decide (k=0)) (l.getD k default)=S) (hp:a0V (l.getD k default)=p) :
  acc++S++p++a4V (decide (k+1=0)) (l.drop (k+1))=a6N l:=by
 have e:l.drop k=l.getD k default::l.drop (k+1):=by
  rw [List.getD_eq_getElem?_getD,List.getElem?_eq_getElem hk,List.drop_eq_getElem_cons hk];rfl
 rw [←hL,e]
 have h0:decide (k+1=0)=false:=decide_eq_false (by omega)
 rw [h0]
 simp only [a4V,hs,hp,List.append_assoc]
theorem b4E {l:List Sg} {k:Nat} {acc:List UInt8} (hk:l.length≤k) (hL:acc++a4V (decide (k=0)) (l.drop k)=a6N l):acc=a6N l:=by
 rw [List.drop_eq_nil_of_le hk] at hL
 simpa [a4V] using hL
theorem b6D {l:List Sg} {k:Nat} (h:∀ x∈l,SgOk x) (hk:k < l.length):SgOk (l.getD k default):=by
 rw [List.getD_eq_getElem?_getD,List.getElem?_eq_getElem hk];exact h _ (List.getElem_mem hk)
theorem b7l (l:List Sg) (hl:l.length≤1000) (hok:∀ x∈l,SgOk x):a0q Tryz.prog 83 [a3B l] (a0p (a6N l)):=by
 refine a0m Tryz.func83 rfl kr _ _ _ rfl 47 rfl rfl (fun w F=>?_)
 refine ru 7 ?_
 refine c1d 3 rfl rfl (c':=2) rfl ?_
 refine ru 11 ?_
 refine a0n (α:=Nat×List UInt8×Nat×Nat) (fun x c=>⟨47,[(3,.v (.pt 8001 0 0 0)),(6,.v (a3B l)),(7,.v (a0h l.length)),(8,.v (a0h x.1))],[(8001,b0Q 0 x.2.2.1 x.2.2.2),(8002,b6u x.2.2.1 x.2.2.2 x.2.1)],c⟩) (fun x=>x.1≤l.length∧x.2.2.2=x.2.1.length∧x.2.2.2≤200 * x.1∧x.2.1++a4V (decide (x.1=0)) (l.drop x.1)=a6N l) (fun x=>l.length - x.1) ((0,[],1,0)) (by exact ⟨Nat.zero_le _,rfl,Nat.zero_le _,rfl⟩) (a0c rfl (Nat.le_refl _) tsa hsa) (fun x c hx NhL1 hL1=>?_)
 revert hx hL1;obtain ⟨k,acc,g,n⟩:=x;intro hx hL1;dsimp only at hx hL1 ⊢
 obtain ⟨hk,hn,hb,hL⟩:=hx
 refine ru 6 ?_
 refine wdc (fun hr0 hc0=>?_) (fun hr0 hc0=>?_)
 ·skip
  have hkl:k < l.length:=om;have hx:=b6D hok hkl;have hnm:=hx.name;have htl:=b0U _ _ hx.low hx.high
  refine ru 26 ?_
  refine wdc (fun hr1 hc1=>?_) (fun hr1 hc1=>?_)
  ·skip
   have hsep:b6g (decide (k=0)) (l.getD k default)=[32]:=(by unfold b6g;rw [if_pos ⟨decide_eq_false om,hc1.2⟩])
   refine ru 1 ?_
   refine a0l 20 (xs:=[_,_]) (pre:=[(8001,_),(8002,_)]) (a2w _ 0 g n acc 32 32 rfl hn om) ⟨rfl,⟨rfl,trivial⟩⟩ (a0g rfl (a0g rfl a0e)) rfl rfl (fun g1 c1 hx1=>?_)
   (try dsimp only)
   refine ru 15 ?_
   refine wdc (fun hr2 hc2=>?_) (fun hr2 hc2=>?_)
   ·refine ru 3 ?_
    refine a0l 27 (xs:=[_,_]) (pre:=[(8001,_),(8002,_)]) (a2h _ 0 g1 (n+1) (acc++[32]) (l.getD k default).name (by rw [List.length_append,hn];rfl) om) ⟨rfl,⟨rfl,trivial⟩⟩ (a0g rfl (a0g rfl a0e)) rfl rfl (fun g2 c2 hx2=>?_)
    (try dsimp only)
    refine ru 8 ?_
    exact hL1 ((k+1,(acc++[32])++(l.getD k default).name,g2,(n+1)+(l.getD k default).name.length)) _ _ (by (try dsimp only);exact ⟨by omega,by simp only [List.length_append,List.length_cons,List.length_nil];omega,by (try simp only [List.length_cons,List.length_nil]);omega,by have h:=a1c (p:=(l.getD k default).name) hkl hL hsep (if_pos hc2);simpa only [List.append_nil,List.append_assoc] using h⟩) (by (try dsimp only);omega) (a0c rfl (Nat.le_refl _) tsa hsa)
   refine ru 6 ?_
   refine wdc (fun hr3 hc3=>?_) (fun hr3 hc3=>?_)
   ·refine ru 1 ?_
    refine a0l 30 (xs:=[_,_]) (pre:=[(8001,_),(8002,_)]) (a2w _ 0 g1 (n+1) (acc++[32]) 40 40 rfl (by rw [List.length_append,hn];rfl) om) ⟨rfl,⟨rfl,trivial⟩⟩ (a0g rfl (a0g rfl a0e)) rfl rfl (fun g2 c3 hx3=>?_)
    (try dsimp only)
    refine ru 8 ?_
    exact hL1 ((k+1,(acc++[32])++[40],g2,(n+1)+1)) _ _ (by (try dsimp only);exact ⟨by omega,by simp only [List.length_append,List.length_cons,List.length_nil];omega,by (try simp only [List.length_cons,List.length_nil]);omega,by have h:=a1c (p:=[40]) hkl hL hsep (by unfold a0V;rw [if_neg hc2,if_pos hc3]);simpa only [List.append_nil,List.append_assoc] using h⟩) (by (try dsimp only);omega) (a0c rfl (Nat.le_refl _) tsa hsa)
   refine ru 6 ?_
   refine wdc (fun hr4 hc4=>?_) (fun hr4 hc4=>?_)
   ·refine ru 1 ?_
    refine a0l 33 (xs:=[_,_]) (pre:=[(8001,_),(8002,_)]) (a2w _ 0 g1 (n+1) (acc++[32]) 41 41 rfl (by rw [List.length_append,hn];rfl) om) ⟨rfl,⟨rfl,trivial⟩⟩ (a0g rfl (a0g rfl a0e)) rfl rfl (fun g2 c4 hx4=>?_)
    (try dsimp only)
    refine ru 8 ?_
    exact hL1 ((k+1,(acc++[32])++[41],g2,(n+1)+1)) _ _ (by (try dsimp only);exact ⟨by omega,by simp only [List.length_append,List.length_cons,List.length_nil];omega,by (try simp only [List.length_cons,List.length_nil]);omega,by have h:=a1c (p:=[41]) hkl hL hsep (by unfold a0V;rw [if_neg hc2,if_neg hc3,if_pos hc4]);simpa only [List.append_nil,List.append_assoc] using h⟩) (by (try dsimp only);omega) (a0c rfl (Nat.le_refl _) tsa hsa)
   refine ru 6 ?_
   refine wdc (fun hr5 hc5=>?_) (fun hr5 hc5=>?_)
   ·refine ru 1 ?_
    refine a0l 36 (xs:=[_,_]) (pre:=[(8001,_),(8002,_)]) (a2w _ 0 g1 (n+1) (acc++[32]) 124 124 rfl (by rw [List.length_append,hn];rfl) om) ⟨rfl,⟨rfl,trivial⟩⟩ (a0g rfl (a0g rfl a0e)) rfl rfl (fun g2 c5 hx5=>?_)
    (try dsimp only)
    refine ru 8 ?_
    exact hL1 ((k+1,(acc++[32])++[124],g2,(n+1)+1)) _ _ (by (try dsimp only);exact ⟨by omega,by simp only [List.length_append,List.length_cons,List.length_nil];omega,by (try simp only [List.length_cons,List.length_nil]);omega,by have h:=a1c (p:=[124]) hkl hL hsep (by unfold a0V;rw [if_neg hc2,if_neg hc3,if_neg hc4,if_pos hc5]);simpa only [List.append_nil,List.append_assoc] using h⟩) (by (try dsimp only);omega) (a0c rfl (Nat.le_refl _) tsa hsa)
   refine ru 6 ?_
   refine wdc (fun hr6 hc6=>?_) (fun hr6 hc6=>?_)
   ·refine ru 5 ?_
    refine cll (b7t _ _ hx.low hx.high) ?_
    refine a0l 44 (xs:=[_,_]) (pre:=[(8001,_),(8002,_)]) (a2h _ 0 g1 (n+1) (acc++[32]) (a0N (l.getD k default).low (l.getD k default).high) (by rw [List.length_append,hn];rfl) om) ⟨rfl,⟨rfl,trivial⟩⟩ (a0g rfl (a0g rfl a0e)) rfl rfl (fun g2 c6 hx6=>?_)
    (try dsimp only)
    refine ru 8 ?_
    exact hL1 ((k+1,(acc++[32])++a0N (l.getD k default).low (l.getD k default).high,g2,(n+1)+(a0N (l.getD k default).low (l.getD k default).high).length)) _ _ (by (try dsimp only);exact ⟨by omega,by simp only [List.length_append,List.length_cons,List.length_nil];omega,by (try simp only [List.length_cons,List.length_nil]);omega,by have h:=a1c (p:=a0N (l.getD k default).low (l.getD k default).high) hkl hL hsep (by unfold a0V;rw [if_neg hc2,if_neg hc3,if_neg hc4,if_neg hc5,if_pos hc6]);simpa only [List.append_nil,List.append_assoc] using h⟩) (by (try dsimp only);omega) (a0c rfl (Nat.le_refl _) tsa hsa)
   refine ru 8 ?_
   exact hL1 ((k+1,acc++[32],g1,n+1)) _ _ (by (try dsimp only);exact ⟨by omega,by simp only [List.length_append,List.length_cons,List.length_nil];omega,by (try simp only [List.length_cons,List.length_nil]);omega,by have h:=a1c (p:=[]) hkl hL hsep (by unfold a0V;rw [if_neg hc2,if_neg hc3,if_neg hc4,if_neg hc5,if_neg hc6]);simpa only [List.append_nil,List.append_assoc] using h⟩) (by (try dsimp only);omega) (a0c rfl (Nat.le_refl _) tsa hsa)
  have hsep:b6g (decide (k=0)) (l.getD k default)=[]:=(by unfold b6g;rw [if_neg (fun h=>by have h1:=of_decide_eq_false h.1;have h2:=hr1;rw [show decide ((0:Int) < (k:Int))=true from decide_eq_true om,Bool.true_and] at h2;simp only [bne_eq_false_iff_eq] at h2;exact h.2 h2)])
  refine ru 15 ?_
  refine wdc (fun hr2 hc2=>?_) (fun hr2 hc2=>?_)
  ·refine ru 3 ?_
   refine a0l 27 (xs:=[_,_]) (pre:=[(8001,_),(8002,_)]) (a2h _ 0 g n acc (l.getD k default).name hn om) ⟨rfl,⟨rfl,trivial⟩⟩ (a0g rfl (a0g rfl a0e)) rfl rfl (fun g2 c7 hx7=>?_)
   (try dsimp only)
   refine ru 8 ?_
   exact hL1 ((k+1,(acc)++(l.getD k default).name,g2,(n)+(l.getD k default).name.length)) _ _ (by (try dsimp only);exact ⟨by omega,by simp only [List.length_append,List.length_cons,List.length_nil];omega,by (try simp only [List.length_cons,List.length_nil]);omega,by have h:=a1c (p:=(l.getD k default).name) hkl hL hsep (if_pos hc2);simpa only [List.append_nil,List.append_assoc] using h⟩) (by (try dsimp only);omega) (a0c rfl (Nat.le_refl _) tsa hsa)
  refine ru 6 ?_
  refine wdc (fun hr3 hc3=>?_) (fun hr3 hc3=>?_)
  ·refine ru 1 ?_
   refine a0l 30 (xs:=[_,_]) (pre:=[(8001,_),(8002,_)]) (a2w _ 0 g n acc 40 40 rfl hn om) ⟨rfl,⟨rfl,trivial⟩⟩ (a0g rfl (a0g rfl a0e)) rfl rfl (fun g2 c8 hx8=>?_)
   (try dsimp only)
   refine ru 8 ?_
   exact hL1 ((k+1,(acc)++[40],g2,(n)+1)) _ _ (by (try dsimp only);exact ⟨by omega,by simp only [List.length_append,List.length_cons,List.length_nil];omega,by (try simp only [List.length_cons,List.length_nil]);omega,by have h:=a1c (p:=[40]) hkl hL hsep (by unfold a0V;rw [if_neg hc2,if_pos hc3]);simpa only [List.append_nil,List.append_assoc] using h⟩) (by (try dsimp only);omega) (a0c rfl (Nat.le_refl _) tsa hsa)
  refine ru 6 ?_
  refine wdc (fun hr4 hc4=>?_) (fun hr4 hc4=>?_)
  ·refine ru 1 ?_
   refine a0l 33 (xs:=[_,_]) (pre:=[(8001,_),(8002,_)]) (a2w _ 0 g n acc 41 41 rfl hn om) ⟨rfl,⟨rfl,trivial⟩⟩ (a0g rfl (a0g rfl a0e)) rfl rfl (fun g2 c9 hx9=>?_)
   (try dsimp only)
   refine ru 8 ?_
   exact hL1 ((k+1,(acc)++[41],g2,(n)+1)) _ _ (by (try dsimp only);exact ⟨by omega,by simp only [List.length_append,List.length_cons,List.length_nil];omega,by (try simp only [List.length_cons,List.length_nil]);omega,by have h:=a1c (p:=[41]) hkl hL hsep (by unfold a0V;rw [if_neg hc2,if_neg hc3,if_pos hc4]);simpa only [List.append_nil,List.append_assoc] using h⟩) (by (try dsimp only);omega) (a0c rfl (Nat.le_refl _) tsa hsa)
  refine ru 6 ?_
  refine wdc (fun hr5 hc5=>?_) (fun hr5 hc5=>?_)
  ·refine ru 1 ?_
   refine a0l 36 (xs:=[_,_]) (pre:=[(8001,_),(8002,_)]) (a2w _ 0 g n acc 124 124 rfl hn om) ⟨rfl,⟨rfl,trivial⟩⟩ (a0g rfl (a0g rfl a0e)) rfl rfl (fun g2 c10 hx10=>?_)
   (try dsimp only)
   refine ru 8 ?_
   exact hL1 ((k+1,(acc)++[124],g2,(n)+1)) _ _ (by (try dsimp only);exact ⟨by omega,by simp only [List.length_append,List.length_cons,List.length_nil];omega,by (try simp only [List.length_cons,List.length_nil]);omega,by have h:=a1c (p:=[124]) hkl hL hsep (by unfold a0V;rw [if_neg hc2,if_neg hc3,if_neg hc4,if_pos hc5]);simpa only [List.append_nil,List.append_assoc] using h⟩) (by (try dsimp only);omega) (a0c rfl (Nat.le_refl _) tsa hsa)
  refine ru 6 ?_
  refine wdc (fun hr6 hc6=>?_) (fun hr6 hc6=>?_)
  ·refine ru 5 ?_
   refine cll (b7t _ _ hx.low hx.high) ?_
   refine a0l 44 (xs:=[_,_]) (pre:=[(8001,_),(8002,_)]) (a2h _ 0 g n acc (a0N (l.getD k default).low (l.getD k default).high) hn om) ⟨rfl,⟨rfl,trivial⟩⟩ (a0g rfl (a0g rfl a0e)) rfl rfl (fun g2 c11 hx11=>?_)
   (try dsimp only)
   refine ru 8 ?_
   exact hL1 ((k+1,(acc)++a0N (l.getD k default).low (l.getD k default).high,g2,(n)+(a0N (l.getD k default).low (l.getD k default).high).length)) _ _ (by (try dsimp only);exact ⟨by omega,by simp only [List.length_append,List.length_cons,List.length_nil];omega,by (try simp only [List.length_cons,List.length_nil]);omega,by have h:=a1c (p:=a0N (l.getD k default).low (l.getD k default).high) hkl hL hsep (by unfold a0V;rw [if_neg hc2,if_neg hc3,if_neg hc4,if_neg hc5,if_pos hc6]);simpa only [List.append_nil,List.append_assoc] using h⟩) (by (try dsimp only);omega) (a0c rfl (Nat.le_refl _) tsa hsa)
  refine ru 8 ?_
  exact hL1 ((k+1,acc,g,n)) _ _ (by (try dsimp only);exact ⟨by omega,by exact hn,by (try simp only [List.length_cons,List.length_nil]);omega,by have h:=a1c (p:=[]) hkl hL hsep (by unfold a0V;rw [if_neg hc2,if_neg hc3,if_neg hc4,if_neg hc5,if_neg hc6]);simpa only [List.append_nil,List.append_assoc] using h⟩) (by (try dsimp only);omega) (a0c rfl (Nat.le_refl _) tsa hsa)
 refine ru 2 ?_
 refine a0d ?_
 refine ru 4 ?_
 refine b7w 46 0 g n acc rfl rfl rfl hn rfl ?_
 refine ru 4 ?_
 refine rt1 ?_
 have e:=b4E om hL;rw [e];exact .imm _
end Go.Proofs.YtjdmfohncgkdoaaGreatDoor
namespace Go.Proofs.YtjdmfohncgkdoaaGreatDoor
set_option linter.unusedSimpArgs false
set_option linter.unusedVariables false
set_option maxRecDepth 100000
open Go.Lib hiding intOf
theorem a5k (p u:List UInt8) (k:Nat):bz (p++u) (p.length+k)=bz u k:=by
 unfold bz
 simp only [List.length_append]
 by_cases h:k < u.length
 ·rw [if_pos (by omega),if_pos h]
  congr 2
  rw [List.getD_eq_getElem?_getD,List.getD_eq_getElem?_getD,List.getElem?_append_right (by omega),show p.length+k - p.length=k by omega]
 ·rw [if_neg (by omega),if_neg h]
theorem b0s (p u:List UInt8):bz (p++u) p.length=bz u 0:=a5k p u 0
theorem a2A {v:List UInt8} (w:List UInt8) {k:Nat} (h:k < v.length):bz (v++w) k=bz v k:=by
 unfold bz
 rw [if_pos (by rw [List.length_append];omega),if_pos h]
 congr 2
 rw [List.getD_eq_getElem?_getD,List.getD_eq_getElem?_getD,List.getElem?_append_left h]
theorem b6f (p u:List UInt8) (k:Nat):a4S (p++u) (p.length+k)=((a4S u k).1,p.length+(a4S u k).2):=by
 unfold a4S
 rw [show p.length+k+1=p.length+(k+1) by omega,show p.length+k+2=p.length+(k+2) by omega]
 simp only [a5k]
 repeat' split
 all_goals rfl
theorem b9J {v:List UInt8} (w:List UInt8) {k q:Nat} {o:Option Int} (h:a4S v k=(o,q)) (hq:q < v.length):a4S (v++w) k=(o,q):=by
 unfold a4S at h ⊢
 by_cases h0:a0W (bz v k)=true
 ·have l0:=a2s h0
  rw [a2A w l0,if_pos h0]
  rw [if_pos h0] at h
  by_cases h1:a0W (bz v (k+1))=true
  ·have l1:=a2s h1
   rw [if_pos h1] at h
   rw [a2A w l1,if_pos h1]
   by_cases h2:bz v k=48
   ·rw [if_pos h2] at h ⊢;exact h
   ·rw [if_neg h2] at h ⊢
    have l2:k+2 < v.length:=by
     by_cases h3:a0W (bz v (k+2))=true
     ·exact a2s h3
     ·rw [if_neg h3] at h;injection h with _ h;omega
    rw [a2A w l2];exact h
  ·have l1:k+1 < v.length:=by
    rw [if_neg h1] at h;injection h with _ h;omega
   rw [a2A w l1,if_neg h1]
   rw [if_neg h1] at h
   exact h
 ·rw [if_neg h0] at h
  have:k < v.length:=by injection h with _ h;omega
  rw [a2A w this,if_neg h0];exact h
theorem a4H {s:List UInt8} {i q:Nat} {low v:Int} (h:numR s i low=.ok (v,q)):a4S s i=(some v,q)∧¬ (v < low∨20 < v):=by
 unfold numR at h
 split at h
 ·cases h
 ·rename_i n q' hn
  split at h
  ·cases h
  ·rename_i hv
   injection h with h;injection h with h1 h2;subst h1;subst h2
   exact ⟨hn,hv⟩
theorem a7I {v:List UInt8} (w:List UInt8) {i q:Nat} {low n:Int} (h:numR v i low=.ok (n,q)) (hq:q < v.length):numR (v++w) i low=.ok (n,q):=by
 have:=a4H h
 exact a8L (b9J w this.1 hq) this.2
theorem a5C {p u:List UInt8} {k q:Nat} {low n:Int} (h:numR u k low=.ok (n,q)):numR (p++u) (p.length+k) low=.ok (n,p.length+q):=by
 have:=a4H h
 refine a8L ?_ this.2
 rw [b6f,this.1]
inductive CountIs (s:List UInt8) (i:Nat) (n m:Int) (q:Nat):Prop
 | from_ (p:Nat):numR s (i+1) 0=.ok (n,p)→bz s p=44→bz s (p+1)=125→m=-1→q=p+2→CountIs s i n m q
 | both (p r:Nat):numR s (i+1) 0=.ok (n,p)→bz s p=44→¬ bz s (p+1)=125→numR s (p+1) (if 1 > n then 1 else n)=.ok (m,r)→bz s r=125→q=r+1→CountIs s i n m q
 | one (p:Nat):numR s (i+1) 0=.ok (n,p)→bz s p=125→n≠0→m=n→q=p+1→CountIs s i n m q
theorem a9m {s:List UInt8} {i q:Nat} {n m:Int} (h:CountIs s i n m q):a2K s i=.ok (⟨5,i,n,m,[]⟩,q):=by
 cases h with
 | from_ p h h1 h2 hm hq=>subst hm;subst hq;unfold a2K;rw [h];simp only;rw [if_pos h1,if_pos h2]
 | both p r h h1 h2 h3 h4 hq=>subst hq;unfold a2K;rw [h];simp only;rw [if_pos h1,if_neg h2,h3];simp only;rw [if_pos h4]
 | one p h h1 h2 hm hq=>subst hm;subst hq;unfold a2K;rw [h];simp only;rw [if_neg (by omega),if_pos h1,if_neg h2]
theorem a7c {s:List UInt8} {i q:Nat} {x:Sg} (h:a2K s i=.ok (x,q)):x=⟨5,i,x.low,x.high,[]⟩∧CountIs s i x.low x.high q:=by
 unfold a2K at h
 split at h
 ·cases h
 ·rename_i n p hn
  split at h
  ·rename_i h44
   split at h
   ·rename_i h125
    injection h with h;injection h with h1 h2;subst h1;subst h2
    exact ⟨rfl,.from_ p hn h44 h125 rfl rfl⟩
   ·rename_i h125
    split at h
    ·cases h
    ·rename_i m q' hm
     split at h
     ·rename_i h6
      injection h with h;injection h with h1 h2;subst h1;subst h2
      exact ⟨rfl,.both p q' hn h44 h125 hm h6 rfl⟩
     ·cases h
  ·split at h
   ·rename_i h125
    split at h
    ·cases h
    ·rename_i h0
     injection h with h;injection h with h1 h2;subst h1;subst h2
     exact ⟨rfl,.one p hn h125 h0 rfl rfl⟩
   ·cases h
theorem b0h {s:List UInt8} {i q:Nat} {low n:Int} (h:numR s i low=.ok (n,q)):i < q∧q≤s.length∧0≤n:=by
 have a:=a4H h
 by_cases hi:i≤s.length
 ·have b:=a5Y hi a.1
  have c:=b.2.2 _ rfl
  omega
 ·have:a4S s i=(none,i):=b0d (by rw [a6h (by omega)];decide)
  rw [this] at a;cases a.1
theorem b2U {v:List UInt8} (w:List UInt8) {i q:Nat} {n m:Int} (h:CountIs v i n m q):CountIs (v++w) i n m q:=by
  cases h with
  | from_ p h h1 h2 hm hq =>
    have l2:=a4o (s:=v) (i:=p+1) (by omega)
    exact .from_ p (a7I w h (by omega)) (by rw [a2A w (by omega)];exact h1) (by rw [a2A w l2];exact h2) hm hq
  | both p r h h1 h2 h3 h4 hq =>
    have l4:=a4o (s:=v) (i:=r) (by omega)
    have l1:=a4o (s:=v) (i:=p) (by omega)
    have l2:=b0h h3
    exact .both p r (a7I w h l1) (by rw [a2A w l1];exact h1) (by rw [a2A w (by omega)];exact h2) (a7I w h3 l4) (by rw [a2A w l4];exact h4) hq
  | one p h h1 h2 hm hq =>
    have l1:=a4o (s:=v) (i:=p) (by omega)
    exact .one p (a7I w h l1) (by rw [a2A w l1];exact h1) h2 hm hq
theorem a9W {p u:List UInt8} {k q:Nat} {n m:Int} (h:CountIs u k n m q):CountIs (p++u) (p.length+k) n m (p.length+q):=by
  cases h with
  | from_ a h h1 h2 hm hq =>
    refine .from_ (p.length+a) ?_ (by rw [a5k];exact h1) (by rw [Nat.add_assoc,a5k];exact h2) hm (by omega)
    rw [Nat.add_assoc];exact a5C h
  | both a r h h1 h2 h3 h4 hq =>
    refine .both (p.length+a) (p.length+r) ?_ (by rw [a5k];exact h1) (by rw [Nat.add_assoc,a5k];exact h2) ?_ (by rw [a5k];exact h4) (by omega)
    · rw [Nat.add_assoc];exact a5C h
    · rw [Nat.add_assoc];exact a5C h3
  | one a h h1 h2 hm hq =>
    refine .one (p.length+a) ?_ (by rw [a5k];exact h1) h2 hm (by omega)
    rw [Nat.add_assoc];exact a5C h
@[reducible] def TimesOk (a b:Int):Prop:=(0≤a∧a≤20)∧(b=-1∨(1≤b∧a≤b∧b≤20))
inductive SgW:Sg→Prop
 | name {p:Int} {n:List UInt8}:n.length≤12→smallZ (bz n 0)=true→(∀ j,j < n.length→alnumZ (bz n j)=true)→SgW ⟨1,p,0,0,n⟩
 | open_ {p:Int}:SgW ⟨2,p,0,0,[]⟩
 | shut {p:Int}:SgW ⟨3,p,0,0,[]⟩
 | or_ {p:Int}:SgW ⟨4,p,0,0,[]⟩
 | times {p a b:Int}:TimesOk a b→SgW ⟨5,p,a,b,[]⟩
theorem b7Q {s:List UInt8}:∀ {f i j:Nat},j < a7A s i f→alnumZ (bz s (i+j))=true
  | 0,i,j,h=>by simp [a7A] at h
  | f + 1, i, j, h => by
    unfold a7A at h
    split at h
    · rename_i ha
      cases j with
      | zero=>exact ha
      | succ j=>rw [show i+(j+1)=i+1+j by omega];exact b7Q (f:=f) (by omega)
    · omega
theorem c0Y {s:List UInt8}:∀ {f i:Nat},a7A s i f≤f
  | 0,i=>by simp [a7A]
  | f + 1, i => by
    unfold a7A
    split
    · have:=c0Y (s:=s) (f:=f) (i:=i+1);omega
    · omega
theorem c1v {s:List UInt8} {i k j:Nat} (h:j < k) (hk:i+k≤s.length):bz ((s.drop i).take k) j=bz s (i+j):=by
 unfold bz
 rw [if_pos (by rw [List.length_take,List.length_drop];omega),if_pos (by omega)]
 congr 2
 rw [List.getD_eq_getElem?_getD,List.getD_eq_getElem?_getD,List.getElem?_take,if_pos h,List.getElem?_drop]
theorem c5h {s:List UInt8} {i q:Nat} {x:Sg} (h:a3Q s i=.ok (x,q)):SgW x:=by
  unfold a3Q at h
  split at h
  · rename_i hs
    have hlt:=a7F hs
    unfold a9Z at h
    split at h
    · cases h
    · rename_i h13
      injection h with h;injection h with h _;subst h
      have h1:=c0Y (s:=s) (f:=13) (i:=i)
      have h2:=b3q (s:=s) (f:=13) (i:=i) (by omega)
      have h0:0 < a7A s i 13:=by
        have:alnumZ (bz s i)=true:=by unfold alnumZ;rw [hs];rfl
        unfold a7A;rw [if_pos this];omega
      refine .name (by rw [List.length_take];omega) ?_ (fun j hj=>?_)
      · rw [c1v h0 h2];exact hs
      · have:j < a7A s i 13:=by rw [List.length_take] at hj;omega
        rw [c1v this h2];exact b7Q this
  split at h
  · have hc:=a7c h
    rw [hc.1]
    refine .times ?_
    cases hc.2 with
    | from_ p h1 _ _ hm _ =>
      have a:=a4H h1
      have b:=b0h h1
      exact ⟨⟨b.2.2,by omega⟩,.inl hm⟩
    | both p r h1 _ _ h2 _ _ =>
      have a:=a4H h1
      have b:=b0h h1
      have c:=(a4H h2).2
      refine ⟨⟨b.2.2,by omega⟩,.inr ?_⟩
      split at c <;> omega
    | one p h1 _ h3 hm _ =>
      have a:=a4H h1
      have b:=b0h h1
      exact ⟨⟨b.2.2,by omega⟩,.inr ⟨by omega,by omega,by omega⟩⟩
  split at h
  · injection h with h;injection h with h _;subst h;exact .open_
  split at h
  · injection h with h;injection h with h _;subst h;exact .shut
  split at h
  · injection h with h;injection h with h _;subst h;exact .or_
  split at h
  · injection h with h;injection h with h _;subst h;exact .times (by decide)
  split at h
  · injection h with h;injection h with h _;subst h;exact .times (by decide)
  split at h
  · injection h with h;injection h with h _;subst h;exact .times (by decide)
  cases h
theorem b8s {s:List UInt8}:∀ {f i:Nat} {out l:List Sg},(∀ x∈out,SgW x)→b2y s f i out=.ok l→∀ x∈l,SgW x
  | 0,i,out,l,h,e=>by injection e with e;subst e;exact h
  | f + 1, i, out, l, h, e => by
    simp only [b2y] at e
    split at e
    · injection e with e;subst e;exact h
    split at e
    · exact b8s h e
    split at e
    · split at e <;> cases e
    · split at e
      · cases e
      · rename_i x q hx
        refine b8s ?_ e
        intro y hy
        rcases List.mem_append.1 hy with hy | hy
        · exact h y hy
        · rw [List.mem_singleton] at hy;subst hy;exact c5h hx
theorem a8C {s:List UInt8} {l:List Sg} (h:lexV s=.ok l):∀ x∈l,SgW x:=b8s (fun x h=>by cases h) h
theorem b2b:I64 0:=by constructor <;> decide
theorem c1s {n:Int} (h:-1≤n) (h2:n≤20):I64 n:=by constructor <;> omega
theorem SgW.ok {x:Sg} (h:SgW x):SgOk x:=by
 cases h with
 | name h1 _ _=>exact ⟨Nat.le_trans h1 (by decide),b2b,b2b⟩
 | open_=>exact ⟨Nat.zero_le _,b2b,b2b⟩
 | shut=>exact ⟨Nat.zero_le _,b2b,b2b⟩
 | or_=>exact ⟨Nat.zero_le _,b2b,b2b⟩
 | @times p a b h=>exact ⟨Nat.zero_le _,c1s (n:=a) (by omega) (by omega),c1s (n:=b) (by omega) (by omega)⟩
def b0G (a b:Int):Bool:=match a3Q (a0N a b) 0 with
 | .ok (x,q)=>decide (x=⟨5,0,a,b,[]⟩)&&decide (q=(a0N a b).length)
 | _=>false
theorem c2o:∀ a:Fin 21,b0G a.val (-1)=true:=by decide +kernel
theorem c1R:∀ a b:Fin 21,(decide (1≤b.val)&&decide (a.val≤b.val))=true→b0G a.val b.val=true:=by decide +kernel
theorem b9D {a b:Int} (h:TimesOk a b):a3Q (a0N a b) 0=.ok (⟨5,0,a,b,[]⟩,(a0N a b).length):=by
 have:b0G a b=true:=by
  obtain ⟨⟨h0,h1⟩,h2⟩:=h
  rcases h2 with h2 | ⟨h2,h3,h4⟩
  ·subst h2
   have:=c2o ⟨a.toNat,by omega⟩
   simpa [Int.toNat_of_nonneg h0] using this
  ·have:=c1R ⟨a.toNat,by omega⟩ ⟨b.toNat,by omega⟩ (by simp;omega)
   simpa [Int.toNat_of_nonneg h0,Int.toNat_of_nonneg (show 0≤b by omega)] using this
 unfold b0G at this
 split at this
 ·rename_i x q hx
  rw [hx]
  simp only [Bool.and_eq_true,decide_eq_true_eq] at this
  rw [this.1,this.2]
 ·cases this
theorem a6q {p u:List UInt8} {x:Sg} {q:Nat} (h:a3Q u 0=.ok (x,q)) (hs:smallZ (bz u 0)=false):a3Q (p++u) p.length=.ok ({ x with at_:=(p.length:Int) },p.length+q):=by
 unfold a3Q at h ⊢
 rw [b0s]
 rw [hs] at h ⊢
 rw [if_neg (by decide)] at h ⊢
 split at h
 ·rename_i h1
  rw [if_pos h1]
  have hc:=a7c h
  have:=a9m (a9W (p:=p) hc.2)
  rw [Nat.add_zero] at this
  rw [this,hc.1]
 ·rename_i h1
  rw [if_neg h1]
  repeat' split at h
  all_goals first
   | (cases h;done)
   | (injection h with h;injection h with h2 h3;subst h2;subst h3;rename_i h4;simp only [h4];rfl)
theorem a9U {v:List UInt8} (w:List UInt8) {x:Sg} {q:Nat} (h:a3Q v 0=.ok (x,q)) (hs:smallZ (bz v 0)=false):a3Q (v++w) 0=.ok (x,q):=by
 have hl:=a6O h
 unfold a3Q at h ⊢
 rw [a2A w (by omega)]
 rw [hs] at h ⊢
 rw [if_neg (by decide)] at h ⊢
 split at h
 ·rename_i h1
  rw [if_pos h1]
  have hc:=a7c h
  rw [a9m (b2U w hc.2),hc.1]
 ·rename_i h1
  rw [if_neg h1]
  repeat' split at h
  all_goals first
   | (cases h;done)
   | (rename_i h4;simp only [h4];exact h)
def Sep (w:List UInt8):Prop:=alnumZ (bz w 0)=false
theorem b5n {x:Sg} (h:SgW x) (p w:List UInt8) (hw:x.kind=1→Sep w):a3Q (p++(a0V x++w)) p.length=.ok ({ x with at_:=(p.length:Int) },p.length+(a0V x).length):=by
  cases h with
  | @name a n h1 h2 h3 =>
    have hn:a0V ⟨1,a,0,0,n⟩=n:=rfl
    rw [hn]
    have h0:0 < n.length:=by
      rcases Nat.eq_zero_or_pos n.length with h | h
      · rw [a6h (by omega)] at h2;exact absurd h2 (by decide)
      · exact h
    have hs:smallZ (bz (p++(n++w)) p.length)=true:=by rw [b0s,a2A w h0];exact h2
    unfold a3Q
    rw [if_pos hs]
    rw [b6A (k:=n.length) (by omega) (fun j hj=>by rw [a5k,a2A w hj];exact h3 j hj) (by rw [a5k];have:=a5k n w 0;rw [Nat.add_zero] at this;rw [this];exact hw rfl)]
    rw [show p.length+n.length - p.length=n.length by omega,List.drop_left,List.take_left]
  | @open_ a=>exact a6q (p:=p) (u:=[40]++w) (x:=⟨2,0,0,0,[]⟩) (q:=1) (a9U w rfl (by decide)) (by rw [a2A w (by decide)];decide)
  | @shut a=>exact a6q (p:=p) (u:=[41]++w) (x:=⟨3,0,0,0,[]⟩) (q:=1) (a9U w rfl (by decide)) (by rw [a2A w (by decide)];decide)
  | @or_ a=>exact a6q (p:=p) (u:=[124]++w) (x:=⟨4,0,0,0,[]⟩) (q:=1) (a9U w rfl (by decide)) (by rw [a2A w (by decide)];decide)
  | @times c a b h =>
    have hn:a0V ⟨5,c,a,b,[]⟩=a0N a b:=rfl
    rw [hn]
    have ht:=b9D h
    have h0:smallZ (bz (a0N a b) 0)=false:=by
      unfold a0N
      repeat' split
      all_goals rfl
    have hl:=a6O ht
    exact a6q (p:=p) (x:=⟨5,0,a,b,[]⟩) (a9U w ht h0) (by rw [a2A w (by omega)];exact h0)
theorem a6L (a b:Int):alnumZ (bz (a0N a b) 0)=false∧bz (a0N a b) 0≠32∧0 < (a0N a b).length:=by
 unfold a0N
 repeat' split
 all_goals first
  | exact ⟨by decide,by decide,by decide⟩
  | (simp only [List.cons_append,List.nil_append,List.append_assoc];exact ⟨rfl,by show (123:Int)≠32;decide,Nat.succ_pos _⟩)
theorem b5V {x:Sg} (h:SgW x):bz (a0V x) 0≠32∧0 < (a0V x).length:=by
  cases h with
  | @name a n h1 h2 h3 =>
    have hn:a0V ⟨1,a,0,0,n⟩=n:=rfl
    rw [hn]
    exact ⟨fun h=>by rw [h] at h2;exact absurd h2 (by decide),by have:=a7F h2;omega⟩
  | open_=>exact ⟨show bz [40] 0≠32 by decide,show 0 < [40].length by decide⟩
  | shut=>exact ⟨show bz [41] 0≠32 by decide,show 0 < [41].length by decide⟩
  | or_=>exact ⟨show bz [124] 0≠32 by decide,show 0 < [124].length by decide⟩
  | @times c a b h=>exact (a6L a b).2
theorem b9z:∀ {l:List Sg},(∀ x∈l,SgW x)→Sep (a4V false l)
  | [],_=>by show alnumZ (bz [] 0)=false;decide
  | x :: r, h => by
    have hx:=h x (List.mem_cons_self ..)
    unfold Sep a4V b6g
    by_cases h5:x.kind=5
    · rw [if_neg (by simp [h5]),List.nil_append]
      cases hx with
      | @times c a b h =>
        have hn:a0V ⟨5,c,a,b,[]⟩=a0N a b:=rfl
        rw [hn,a2A _ (a6L a b).2.2]
        exact (a6L a b).1
      | name _ _ _=>exact absurd h5 (by show ¬ (1:Int)=5;decide)
      | open_=>exact absurd h5 (by show ¬ (2:Int)=5;decide)
      | shut=>exact absurd h5 (by show ¬ (3:Int)=5;decide)
      | or_=>exact absurd h5 (by show ¬ (4:Int)=5;decide)
    · rw [if_pos ⟨rfl,h5⟩]
      rfl
def b2P:List Sg→List Sg→Prop
 | [],[]=>True
 | x::a,y::b=>y={ x with at_:=y.at_ }∧b2P a b
 | _,_=>False
theorem b4L:∀ {l:List Sg} {f:Bool} {p:List UInt8} {out:List Sg},(∀ x∈l,SgW x)→out.length+l.length≤200 →
    ∃ l',a4D (p++a4V f l) p.length out=.ok (out++l')∧b2P l l'
  | [],f,p,out,_,_=>⟨[],by rw [a7Z (by simp [a4V]),List.append_nil],trivial⟩
  | x :: r, f, p, out, h, hl => by
    have hx:=h x (List.mem_cons_self ..)
    have hr:∀ y∈r,SgW y:=fun y hy=>h y (List.mem_cons_of_mem _ hy)
    have hp:=b5V hx
    rw [List.length_cons] at hl
    have key:∀ q:List UInt8,∃ l',a4D (q++(a0V x++a4V false r)) q.length out=.ok (out++l')∧b2P (x::r) l':=by
      intro q
      have h0:bz (q++(a0V x++a4V false r)) q.length=bz (a0V x) 0:=by rw [b0s,a2A _ hp.2]
      rw [a9P (by simp only [List.length_append];omega) (by rw [h0];exact hp.1) (by omega) (b5n hx q (a4V false r) (fun _=>b9z hr))]
      obtain ⟨l',e,hs⟩:=b4L (l:=r) (f:=false) (p:=q++a0V x) (out:=out++[{ x with at_:=(q.length:Int) }]) hr (by rw [List.length_append];show out.length+1+_≤_;omega)
      rw [List.length_append,List.append_assoc] at e
      exact ⟨{ x with at_:=(q.length:Int) }::l',by rw [e,List.append_assoc];rfl,rfl,hs⟩
    unfold a4V b6g
    by_cases h5:f=false∧x.kind≠5
    · rw [if_pos h5]
      obtain ⟨l',e,hs⟩:=key (p++[32])
      refine ⟨l',?_,hs⟩
      rw [b0H (by simp) (by rw [b0s];rfl),←e]
      simp [List.append_assoc]
    · rw [if_neg h5]
      exact key p
end Go.Proofs.YtjdmfohncgkdoaaGreatDoor
