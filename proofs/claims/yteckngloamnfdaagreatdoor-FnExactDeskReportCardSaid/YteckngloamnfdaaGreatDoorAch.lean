/- slices.overlaps, which the model itself answers: two own objects do not overlap. No condition. -/
import Derived.Test.YteckngloamnfdaaGreatDoorKc
import Derived.Lib.Overlaps
import Derived.Laws.Externs
namespace Go.Ab
variable {P:Program} {A A':Nat→Prop} {m m':OMap} {h h':OFun} {w w':World} {H:Heap}
theorem qgd {tS tR e:TypeId} (hel:elemT P tS=some e) (hz:0<sizeT P e) (a b:Option Addr) (la ca lb cb:Nat) (h:a=none∨b=none∨la=0∨lb=0) :
  (Extern.SlicesOverlaps.overlaps #[tS,tS] #[tR] #[.slice a la ca, .slice b lb cb]).run P w = .ok (.bool false) w:=by
 change Sem.run P (α:=Value) (do
  let some t := (#[tS, tS] : Array TypeId)[0]? | stuck "slices.overlaps: no parameter types"
  let .slice elem ← underlying t | stuck "slices.overlaps: slice type expected"
  let size ← sizeOf elem
  match (a:Option Addr),(b:Option Addr) with
  | some a,some b =>
   if la=0∨lb=0∨size=0 then pure (Value.bool false)
   else if a.block != b.block&&(← frozen a)&&(← frozen b) then unsupported .addressObserved
   else do
    if a.block != b.block then do
     noView a; noView b
     if ← mayBeOne a b then return Value.bool ((← choose (.extern "sameAddr.stringBytes" 2)) == 1)
    pure (Value.bool (a.block==b.block&&a.off<b.off+lb*size&&b.off<a.off+la*size))
  | _,_=>pure (Value.bool false)) w=_
 cases a with
 | none=>simp[run_underlying (qaK hel),qbj hz]
 | some a =>
  cases b with
  | none=>simp[run_underlying (qaK hel),qbj hz]
  | some b =>
   have h0:la=0∨lb=0∨sizeT P e=0:=by
    rcases h with h | h | h | h
    ·cases h
    ·cases h
    ·exact .inl h
    ·exact .inr (.inl h)
   simp[run_underlying (qaK hel),qbj hz,h0]
theorem qqG {f tS tR e : Nat} {fn : Func} (hf : P.funcs[f]? = some fn) (hname : (fn.name == "runtime.NumGoroutine") = false) (hb : fn.body.isNone = true) (hn : Extern.findNext fn = none) (he : Extern.find fn = some (Extern.SlicesOverlaps.overlaps #[tS, tS] #[tR]))
  (hel:elemT P tS=some e) (hz:0<sizeT P e) (z:Nat) (hz':0<z) (rv rows:List (List PV)) (lo len:Nat) :
  MFn P f [.sf 0 z, .so 1 z lo len] [some (.arr z rv),some (.arr z rows)] [0,1] (.bool false) [some (.arr z rv),some (.arr z rows)]:=by
 intro A m w vs hA hC hsz hargs
 have h0:getO [some (.arr z rv),some (.arr z rows)] 0=some (.arr z rv):=rfl
 have h1:getO [some (.arr z rv),some (.arr z rows)] 1=some (.arr z rows):=rfl
 have r0:=hargs 0 _ rfl
 have r1:=hargs 1 _ rfl
 have hvs:vs = #[vs.getD 0 undef,vs.getD 1 undef]:=by
  have hs:vs.size=2:=hsz
  apply Array.ext
  ·simp[hs]
  ·intro i h1 h2
   have:i=0∨i=1:=by omega
   rcases this with rfl | rfl<;>simp[Array.getD_eq_getD_getElem?,hs]
 have fin:(Extern.SlicesOverlaps.overlaps #[tS,tS] #[tR] vs).run P w = .ok (.bool false) w→CallS P f vs w fun e w'=>∃v A' m',e = .returned v∧Came A m (getO [some (.arr z rv),some (.arr z rows)]) w (.bool false) (getO [some (.arr z rv),some (.arr z rows)]) v w' A' m' ∧
   ∀k,k ∈ [0,1]→m' k=m k∧∃o o',getO [some (.arr z rv),some (.arr z rows)] k=some o∧getO [some (.arr z rv),some (.arr z rows)] k=some o'∧qaD o o':=fun hrun=>by
  unfold CallS
  rw[run_callFunc_extern hf hname hb hn he,hrun]
  refine⟨rfl, .bool false,A,m,rfl,⟨.refl _ _,fun b hb => .inl hb,hA,hC,fun b hb => .inl hb, .imm (.bool _)⟩,fun k hk=>⟨rfl,?_⟩⟩
  simp at hk
  rcases hk with rfl | rfl
  ·exact⟨_,_,h0,h0, .refl _⟩
  ·exact⟨_,_,h1,h1, .refl _⟩
 apply fin
 rw[hvs]
 generalize vs.getD 0 undef=v0 at r0 ⊢
 generalize vs.getD 1 undef=v1 at r1 ⊢
 obtain⟨rows',ob,C,cap,hk',hm,hv⟩:=r1.soI
 have e0:v0 = .slice none 0 0∨(∃ao c,v0 = .slice ao 0 c)∨∃b C0,v0 = .slice (some ⟨b,0,none⟩) rv.length C0∧m 0=some (some b,C0):=by
  cases r0 with
  | imm hi=>cases hi
  | sfN _ _ C0 ao hk0 hm0=>exact .inr (.inl ⟨ao,0,rfl⟩)
  | sf _ _ C0 b rws hk0 hm0=>rw[h0]at hk0; cases hk0; exact .inr (.inr ⟨b,C0,rfl,hm0⟩)
 rcases e0 with rfl | ⟨ao,c,rfl⟩ | ⟨b0,C0,rfl,hm0⟩
 ·rcases hv with ⟨rfl,ao',rfl,_⟩ | ⟨b1,rfl,rfl,_,_⟩<;>exact qgd hel hz _ _ _ _ _ _ (.inl rfl)
 ·rcases hv with ⟨rfl,ao',rfl,_⟩ | ⟨b1,rfl,rfl,_,_⟩<;>exact qgd hel hz _ _ _ _ _ _ (.inr (.inr (.inl rfl)))
 ·rcases hv with ⟨rfl,ao',rfl,_⟩ | ⟨b1,rfl,rfl,hl1,hc1⟩
  ·exact qgd hel hz _ _ _ _ _ _ (.inr (.inr (.inr rfl)))
  ·rw[h1]at hk'
   cases hk'
   obtain⟨p1,p2,p3,p4,p5,cur,ty,q1,q2,q3⟩:=hC.at_arr h0 hm0
   obtain⟨s1,s2,s3,s4,s5,cur',ty',u1,u2,u3⟩:=hC.at_arr h1 hm
   have hne:b0≠b1:=fun e=>by
    subst e
    have:=hC.inj 0 1 _ _ _ _ _ h0 h1 hm0 hm
    omega
   have sh0:w.shape? b0=some (ty,cur.size):=by simp[World.shape?,q1]
   have sh1:w.shape? b1=some (ty',cur'.size):=by simp[World.shape?,u1]
   by_cases hz1:cur'.size=0
   ·have hlen:len=0:=by
     by_cases hrz:rows.length=0
     ·omega
     ·exfalso
      have hC1:0<C:=by omega
      have:0<C*z:=Nat.mul_pos hC1 hz'
      omega
    exact qgd hel hz _ _ _ _ _ _ (.inr (.inr (.inr hlen)))
   ·refine Lib.run_overlaps_apart w tS tR e (qaK hel) (sizeT P e) (fun w=>qbj hz w) ⟨b0,0,none⟩ ⟨b1,lo*z,none⟩ rv.length C0 len cap hne ty ty' cur.size cur'.size sh0 sh1 hz1 ?_ ?_
    ·simp[World.frozen?,q1]
    ·simp[World.frozen?,q1]
end Go.Ab
