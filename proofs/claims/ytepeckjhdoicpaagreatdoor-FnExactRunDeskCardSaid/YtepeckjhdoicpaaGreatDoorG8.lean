import Derived.Test.YtepeckjhdoicpaaGreatDoorG7
import Derived.Lib.LaidTab
import Derived.MakeChecks
import Derived.LaidMore
import Derived.LaidHandle
import Derived.HandedShaped
import Derived.Lay
import Derived.Shelf.Vars
import Derived.OpenVars
set_option linter.all false
set_option maxRecDepth 100000
namespace Go.Proofs.YtepeckjhdoicpaaGreatDoor
open Go Go.Ab
section
variable[dw:Go.Ab.bI]
theorem aQ(l:List (List UInt8)):(au l).length=l.length:=eC
theorem fe(l:List (List UInt8)){i:Nat}(h:i<(au l).length):(au l)[i]=[PV.str (l[i]'(by rw[aQ]at h;exact h))]:=eC
structure TY where
 Y3:Int
 tin:Int
 other:Int
theorem TY.eq_iff{a b:TY}:a=b↔a.Y3=b.Y3∧a.tin=b.tin∧a.other=b.other:=cn
instance:DecidableEq TY:=λ_ _=>decidable_of_iff _ TY.eq_iff.symm
structure aW where
 id:List UInt8
 bR:Int
 gU:Int
 kq:Int
 gM:Int
theorem aW.eq_iff{a b:aW}:a=b↔a.id=b.id∧a.bR=b.bR∧a.gU=b.gU∧a.kq=b.kq∧a.gM=b.gM:=cn
instance:DecidableEq aW:=λ_ _=>decidable_of_iff _ aW.eq_iff.symm
def aW.cells(x:aW):List PV:=[.str x.id,.int .i64 x.bR,.int .i64 x.gU,.int .i64 x.kq,.int .i64 x.gM]
def aW.rows(l:List aW):List (List PV):=l.map aW.cells
def aW.wf(x:aW):Prop:=x.id.length≤9223372036854775807∧-9223372036854775808≤x.bR∧x.bR≤9223372036854775807∧-9223372036854775808≤x.gU∧x.gU≤9223372036854775807∧-9223372036854775808≤x.kq∧x.kq≤9223372036854775807∧-9223372036854775808≤x.gM∧x.gM≤9223372036854775807
theorem aW.aj(l:List aW):(aW.rows l).length=l.length:=kO
theorem aW.one(l:List aW):Go.Ab.aC (aW.rows l):=λr a=>c6
structure bC where
 bB:List UInt8
 bR:Int
 arm:Int
 form:Int
 cB:Int
theorem bC.eq_iff{a b:bC}:a=b↔a.bB=b.bB∧a.bR=b.bR∧a.arm=b.arm∧a.form=b.form∧a.cB=b.cB:=cn
instance:DecidableEq bC:=λ_ _=>decidable_of_iff _ bC.eq_iff.symm
def bC.cells(x:bC):List PV:=[.str x.bB,.int .i64 x.bR,.int .i64 x.arm,.int .i64 x.form,.int .i64 x.cB]
def bC.rows(l:List bC):List (List PV):=l.map bC.cells
def bC.wf(x:bC):Prop:=x.bB.length≤9223372036854775807∧-9223372036854775808≤x.bR∧x.bR≤9223372036854775807∧-9223372036854775808≤x.arm∧x.arm≤9223372036854775807∧-9223372036854775808≤x.form∧x.form≤9223372036854775807∧-9223372036854775808≤x.cB∧x.cB≤9223372036854775807
theorem bC.aj(l:List bC):(bC.rows l).length=l.length:=kM
theorem bC.one(l:List bC):Go.Ab.aC (bC.rows l):=λr a=>c6
structure iN where
 width:Int
 length:Int
 wR:Int
theorem iN.eq_iff{a b:iN}:a=b↔a.width=b.width∧a.length=b.length∧a.wR=b.wR:=cn
instance:DecidableEq iN:=λ_ _=>decidable_of_iff _ iN.eq_iff.symm
def iN.cells(x:iN):List PV:=[.int .i64 x.width,.int .i64 x.length,.int .i64 x.wR]
structure Place where
 bB:List UInt8
 x:Int
 y:Int
 z:Int
 reach:Int
theorem Place.eq_iff{a b:Place}:a=b↔a.bB=b.bB∧a.x=b.x∧a.y=b.y∧a.z=b.z∧a.reach=b.reach:=cn
instance:DecidableEq Place:=λ_ _=>decidable_of_iff _ Place.eq_iff.symm
def Place.cells(x:Place):List PV:=[.str x.bB,.int .i64 x.x,.int .i64 x.y,.int .i64 x.z,.int .i64 x.reach]
def Place.rows(l:List Place):List (List PV):=l.map Place.cells
def Place.wf(x:Place):Prop:=x.bB.length≤9223372036854775807∧-9223372036854775808≤x.x∧x.x≤9223372036854775807∧-9223372036854775808≤x.y∧x.y≤9223372036854775807∧-9223372036854775808≤x.z∧x.z≤9223372036854775807∧-9223372036854775808≤x.reach∧x.reach≤9223372036854775807
theorem Place.aj(l:List Place):(Place.rows l).length=l.length:=kf
theorem Place.one(l:List Place):Go.Ab.aC (Place.rows l):=λr a=>c6
structure dm where
 name:List UInt8
 xM:Int
 fk:Int
 dP:Int
 uE:Int
theorem dm.eq_iff{a b:dm}:a=b↔a.name=b.name∧a.xM=b.xM∧a.fk=b.fk∧a.dP=b.dP∧a.uE=b.uE:=cn
instance:DecidableEq dm:=λ_ _=>decidable_of_iff _ dm.eq_iff.symm
def dm.cells(x:dm):List PV:=[.str x.name,.int .i64 x.xM,.int .i64 x.fk,.int .i64 x.dP,.int .i64 x.uE]
structure cA where
 rp:List UInt8
 bR:Int
theorem cA.eq_iff{a b:cA}:a=b↔a.rp=b.rp∧a.bR=b.bR:=cn
instance:DecidableEq cA:=λ_ _=>decidable_of_iff _ cA.eq_iff.symm
def cA.cells(x:cA):List PV:=[.str x.rp,.int .i64 x.bR]
def cA.rows(l:List cA):List (List PV):=l.map cA.cells
def cA.wf(x:cA):Prop:=x.rp.length≤9223372036854775807∧-9223372036854775808≤x.bR∧x.bR≤9223372036854775807
theorem cA.aj(l:List cA):(cA.rows l).length=l.length:=by simp[cA.rows]
theorem cA.one(l:List cA):Go.Ab.aC (cA.rows l):=λr a=>c6
structure dE where
 fB:Int
 weight:Int
theorem dE.eq_iff{a b:dE}:a=b↔a.fB=b.fB∧a.weight=b.weight:=cn
instance:DecidableEq dE:=λ_ _=>decidable_of_iff _ dE.eq_iff.symm
def dE.cells(x:dE):List PV:=[.int .i64 x.fB,.int .i64 x.weight]
def dE.rows(l:List dE):List (List PV):=l.map dE.cells
def dE.wf(x:dE):Prop := -9223372036854775808≤x.fB∧x.fB≤9223372036854775807∧-9223372036854775808≤x.weight∧x.weight≤9223372036854775807
theorem dE.aj(l:List dE):(dE.rows l).length=l.length:=by simp[dE.rows]
theorem dE.one(l:List dE):Go.Ab.aC (dE.rows l):=λr a=>c6
structure dJ where
 z7:Int
 sW:Int
theorem dJ.eq_iff{a b:dJ}:a=b↔a.z7=b.z7∧a.sW=b.sW:=cn
instance:DecidableEq dJ:=λ_ _=>decidable_of_iff _ dJ.eq_iff.symm
def dJ.cells(x:dJ):List PV:=[.int .i64 x.z7,.int .i64 x.sW]
def dJ.rows(l:List dJ):List (List PV):=l.map dJ.cells
def dJ.wf(x:dJ):Prop := -9223372036854775808≤x.z7∧x.z7≤9223372036854775807∧-9223372036854775808≤x.sW∧x.sW≤9223372036854775807
theorem dJ.aj(l:List dJ):(dJ.rows l).length=l.length:=by simp[dJ.rows]
theorem dJ.one(l:List dJ):Go.Ab.aC (dJ.rows l):=λr a=>c6
structure cE where
 bB:List UInt8
 rate:Int
 pE:Int
theorem cE.eq_iff{a b:cE}:a=b↔a.bB=b.bB∧a.rate=b.rate∧a.pE=b.pE:=cn
instance:DecidableEq cE:=λ_ _=>decidable_of_iff _ cE.eq_iff.symm
def cE.cells(x:cE):List PV:=[.str x.bB,.int .i64 x.rate,.int .i64 x.pE]
def cE.rows(l:List cE):List (List PV):=l.map cE.cells
theorem cE.flat(l:List cE):oE (cE.rows l):=λr a c hc=>by
 obtain⟨x,_,rfl⟩:=ba.1 a;simp only[cE.cells,bz,mI,GH]at hc;rcases hc with rfl|rfl|rfl<;>rfl
theorem cE.aj(l:List cE):(cE.rows l).length=l.length:=by simp[cE.rows]
structure aJ where
 kind:Int
 Z0:List UInt8
 Ma:List UInt8
theorem aJ.eq_iff{a b:aJ}:a=b↔a.kind=b.kind∧a.Z0=b.Z0∧a.Ma=b.Ma:=cn
instance:DecidableEq aJ:=λ_ _=>decidable_of_iff _ aJ.eq_iff.symm
def aJ.cells(x:aJ):List PV:=[.int .i64 x.kind,.str x.Z0,.str x.Ma]
def aJ.rows(l:List aJ):List (List PV):=l.map aJ.cells
theorem aJ.flat(l:List aJ):oE (aJ.rows l):=λr a c hc=>by
 obtain⟨x,_,rfl⟩:=ba.1 a;simp only[aJ.cells,bz,mI,GH]at hc;rcases hc with rfl|rfl|rfl<;>rfl
theorem aJ.aj(l:List aJ):(aJ.rows l).length=l.length:=zr
theorem aJ.one(l:List aJ):Go.Ab.aC (aJ.rows l):=λr a=>c6
structure aO where
 note:Int
 start:Int
 length:Int
theorem aO.eq_iff{a b:aO}:a=b↔a.note=b.note∧a.start=b.start∧a.length=b.length:=cn
instance:DecidableEq aO:=λ_ _=>decidable_of_iff _ aO.eq_iff.symm
def aO.cells(x:aO):List PV:=[.int .i64 x.note,.int .i64 x.start,.int .i64 x.length]
def aO.rows(l:List aO):List (List PV):=l.map aO.cells
def aO.wf(x:aO):Prop := -9223372036854775808≤x.note∧x.note≤9223372036854775807∧-9223372036854775808≤x.start∧x.start≤9223372036854775807∧-9223372036854775808≤x.length∧x.length≤9223372036854775807
theorem aO.flat(l:List aO):oE (aO.rows l):=λr a c hc=>by
 obtain⟨x,_,rfl⟩:=ba.1 a;simp only[aO.cells,bz,mI,GH]at hc;rcases hc with rfl|rfl|rfl<;>rfl
theorem aO.aj(l:List aO):(aO.rows l).length=l.length:=by simp[aO.rows]
theorem aO.one(l:List aO):Go.Ab.aC (aO.rows l):=λr a=>c6
structure aR where
 id:List UInt8
 aG:List (List UInt8)
 bR:Int
theorem aR.eq_iff{a b:aR}:a=b↔a.id=b.id∧a.aG=b.aG∧a.bR=b.bR:=cn
instance:DecidableEq aR:=λ_ _=>decidable_of_iff _ aR.eq_iff.symm
def aR.cells(x:aR):List PV:=[.str x.id,.sl 1 (au x.aG),.int .i64 x.bR]
def aR.rows(l:List aR):List (List PV):=l.map aR.cells
theorem aR.aj(l:List aR):(aR.rows l).length=l.length:=by simp[aR.rows]
theorem aR.one(l:List aR):Go.Ab.aC (aR.rows l):=λr a=>c6
theorem aR.cx(l:List aR){i:Nat}(h:i<(aR.rows l).length):(aR.rows l)[i]=(l[i]'(by rw[aR.aj]at h;exact h)).cells:=by simp[aR.rows]
structure aS where
 id:List UInt8
 note:Int
 bR:Int
 feed:Int
 shares:List cA
theorem aS.eq_iff{a b:aS}:a=b↔a.id=b.id∧a.note=b.note∧a.bR=b.bR∧a.feed=b.feed∧a.shares=b.shares:=cn
instance:DecidableEq aS:=λ_ _=>decidable_of_iff _ aS.eq_iff.symm
def aS.cells(x:aS):List PV:=[.str x.id,.int .i64 x.note,.int .i64 x.bR,.int .i64 x.feed,.sl 2 (cA.rows x.shares)]
def aS.rows(l:List aS):List (List PV):=l.map aS.cells
theorem aS.aj(l:List aS):(aS.rows l).length=l.length:=y1
theorem aS.one(l:List aS):Go.Ab.aC (aS.rows l):=λr a=>c6
theorem aS.cx(l:List aS){i:Nat}(h:i<(aS.rows l).length):(aS.rows l)[i]=(l[i]'(by rw[aS.aj]at h;exact h)).cells:=y1
structure bu where
 name:List UInt8
 span:Int
 width:Int
 depth:Int
 pX:Int
 aY:List dE
theorem bu.eq_iff{a b:bu}:a=b↔a.name=b.name∧a.span=b.span∧a.width=b.width∧a.depth=b.depth∧a.pX=b.pX∧a.aY=b.aY:=cn
instance:DecidableEq bu:=λ_ _=>decidable_of_iff _ bu.eq_iff.symm
def bu.cells(x:bu):List PV:=[.str x.name,.int .i64 x.span,.int .i64 x.width,.int .i64 x.depth,.int .i64 x.pX,.sl 2 (dE.rows x.aY)]
def bu.rows(l:List bu):List (List PV):=l.map bu.cells
theorem bu.aj(l:List bu):(bu.rows l).length=l.length:=kL
theorem bu.one(l:List bu):Go.Ab.aC (bu.rows l):=λr a=>c6
theorem bu.cx(l:List bu){i:Nat}(h:i<(bu.rows l).length):(bu.rows l)[i]=(l[i]'(by rw[bu.aj]at h;exact h)).cells:=kL
structure Action where
 note:Int
 fY:List dJ
 Hr:Int
 weight:Int
theorem Action.eq_iff{a b:Action}:a=b↔a.note=b.note∧a.fY=b.fY∧a.Hr=b.Hr∧a.weight=b.weight:=cn
instance:DecidableEq Action:=λ_ _=>decidable_of_iff _ Action.eq_iff.symm
def Action.cells(x:Action):List PV:=[.int .i64 x.note,.sl 2 (dJ.rows x.fY),.int .i64 x.Hr,.int .i64 x.weight]
def Action.rows(l:List Action):List (List PV):=l.map Action.cells
theorem Action.aj(l:List Action):(Action.rows l).length=l.length:=j0
theorem Action.one(l:List Action):Go.Ab.aC (Action.rows l):=λr a=>c6
theorem Action.cx(l:List Action){i:Nat}(h:i<(Action.rows l).length):(Action.rows l)[i]=(l[i]'(by rw[Action.aj]at h;exact h)).cells:=j0
structure db where
 name:List UInt8
 aU:List aO
theorem db.eq_iff{a b:db}:a=b↔a.name=b.name∧a.aU=b.aU:=cn
instance:DecidableEq db:=λ_ _=>decidable_of_iff _ db.eq_iff.symm
def db.cells(x:db):List PV:=[.str x.name,.sl 3 (aO.rows x.aU)]
structure aF where
 aG:List aW
 dR:List aR
 cu:List aS
 cq:List bC
 iO:iN
 places:List Place
 fp:Int
 lL:dm
 frame:List bu
 oD:Int
 mZ:Int
 bU:List Action
 fX:db
theorem aF.eq_iff{a b:aF}:a=b↔a.aG=b.aG∧a.dR=b.dR∧a.cu=b.cu∧a.cq=b.cq∧a.iO=b.iO∧a.places=b.places∧a.fp=b.fp∧a.lL=b.lL∧a.frame=b.frame∧a.oD=b.oD∧a.mZ=b.mZ∧a.bU=b.bU∧a.fX=b.fX:=cn
instance:DecidableEq aF:=λ_ _=>decidable_of_iff _ aF.eq_iff.symm
def aF.cells(x:aF):List PV:=[.sl 5 (aW.rows x.aG),.sl 3 (aR.rows x.dR),.sl 5 (aS.rows x.cu),.sl 5 (bC.rows x.cq),.int .i64 x.iO.width,.int .i64 x.iO.length,.int .i64 x.iO.wR,.sl 5 (Place.rows x.places),.int .i64 x.fp,.str x.lL.name,.int .i64 x.lL.xM,.int .i64 x.lL.fk,.int .i64 x.lL.dP,.int .i64 x.lL.uE,.sl 6 (bu.rows x.frame),.int .i64 x.oD,.int .i64 x.mZ,.sl 4 (Action.rows x.bU),.str x.fX.name,.sl 3 (aO.rows x.fX.aU)]
end
end Go.Proofs.YtepeckjhdoicpaaGreatDoor
namespace Go.Ab
section
variable[dw:Go.Ab.bI]
variable{P:Program}{W:World}
theorem auB{name:String}{g:Nat}{cs:Array Value}{zs:List Int}{k:IntKind}(A:Nat→Prop)(j:P.globalNamed name=some g)(h:W.var? P name=some cs)(hc:cs.toList=zs.map λz=>Value.int k z):
  g<W.heap.size∧∃us e fz,W.heap[g]?=some (.cells us e fz)∧us.size=(zs.map λz=>PV.int k z).length∧∀(i:Nat)(c:PV),(zs.map λz=>PV.int k z)[i]?=some c→dC A W c (us.getD i undef):=by
 unfold World.var? at h;rw[j,mH]at h;split at h
 ·rename_i us e fz hw;obtain rfl:us=cs:=da h;refine⟨(gR.1 hw).1,us,e,fz,hw,?_,λi c hi=>?_⟩
  ·rw[aT,←il,hc,aT]
  ·rw[bm]at hi;cases hz:zs[i]? with
   |none=>rw[hz]at hi;cases hi
   |some z=>
    rw[hz]at hi;cases hi;have:us.toList[i]?=some (.int k z):=by rw[hc,bm,hz];rfl
    rw[f_]at this;rw[ax,this];exact .int k z
 ·cases h
theorem agS{g:Nat}{v:Value}(h:W.cell? ⟨g,0,none⟩=some v):g<W.heap.size∧∃us e fz,W.heap[g]?=some (.cells us e fz)∧us[0]?=some v:=by
 unfold World.cell? at h;cases hh:W.heap[g]? with
 |none=>rw[hh]at h;cases h
 |some o=>
  rw[hh]at h;cases o with
  |cells us e fz=>exact⟨(gR.1 hh).1,us,e,fz,rfl,c8⟩
  |_=>cases h
theorem ar5{H:Type}{enc:TypeId×Value→H}{w:World}{b:Nat}{sp:Nat→Bool}{held:Bool}{t:TypeId}{ms:Array (String×TypeId)}(hu:P.underlying t=some (.interface ms)){nm:String}{d:DataW H}{p:List MemPlace}:
  ∀{fuel:Nat}{cs:List Value},DataW.trod enc P w b sp held fuel t cs=some (.iface nm d,p)→∃te pe,cs=[.iface te pe]
 |0,_,h=>by cases h
 |fuel+1,cs,h=>by
  unfold DataW.trod at h;rw[hu]at h;rcases cs with _|⟨v,_|⟨u,r⟩⟩
  ·cases h
  ·cases v<;>first|exact⟨_,_,rfl⟩|cases h
  ·cases v<;>cases h
theorem auE{name:String}{g:Nat}{cs:Array Value}(j:P.globalNamed name=some g)(a:W.var? P name=some cs)(hc:∃te pe,cs.toList=[.iface te pe]):
  g<W.heap.size∧∃us e fz v,W.heap[g]?=some (.cells us e fz)∧us[0]?=some v∧(1=0→∃m,v=.int .i64 m)∧(1=1→∃t p,v=.iface t p):=by
 unfold World.var? at a;rw[j,mH]at a;split at a
 ·rename_i us e fz hw;obtain rfl:us=cs:=da a;obtain⟨te,pe,hc⟩:=hc;refine⟨(gR.1 hw).1,us,e,fz,.iface te pe,hw,?_,λh=>absurd h bt,λ_=>⟨_,_,rfl⟩⟩;rw[←f_,hc];rfl
 ·cases a
theorem aso{g:Nat}(h:∃m,W.cell? ⟨g,0,none⟩=some (.int .i64 m)):
  g<W.heap.size∧∃us e fz v,W.heap[g]?=some (.cells us e fz)∧us[0]?=some v∧(0=0→∃m,v=.int .i64 m)∧(0=1→∃t p,v=.iface t p):=by
 obtain⟨m,h⟩:=h;obtain⟨h1,us,e,fz,h2,c⟩:=agS h;exact⟨h1,us,e,fz,_,h2,c,λ_=>⟨m,rfl⟩,λh=>absurd h bt⟩
theorem adV{H:Type}{enc:TypeId×Value→H}{a:Assume}{C:Checked}{os:Os}{f:FuncId}{fn:Func}{s:ChangeSpec}{A:List PathCond}{apart B b D:Bool}{X:World→Array Value→Prop}
  (Y:∀(w w':World)(args:Array Value),w.heap=w'.heap→X w args→X w' args)
  (own:ownKnob C.prog.godebug=none) (c:os.Started) (O:C.prog.inits.idxOf? f=none) (hfn:C.prog.funcs[f]?=some fn)
  (U:∃(w:World)(tape:Tape)(i:Input),w.os=os∧(w.forCall tape i).Shaped C.prog∧i.vars=[]∧Input.okWide C.prog (w.forCall tape i) .any w.heap.size f i ∧
   ((s.pre enc C.prog fn A apart (w.forCall tape i).memory i.args∧X (w.forCall tape i).memory i.args)∧sizedMet enc C.prog fn (OpenSpec.ofChange s) apart (w.forCall tape i).memory i.args)∧a.holds C.prog (lone (Frame.enter C.prog f i.args .normal) [] (w.forCall tape i)))
  (d:∀(W:World)(base:Nat)(args:Array Value)(V n:List (DataW H))(N:List MemPlace),
   (∀(j:Nat) t v,fn.params[j]?=some t→args[j]?=some v→Value.okWide C.prog W .any base t v) →
   DataW.Whole enc C.prog fn.params.toList s.vars apart W args.toList V n N→X W args→W.ShapedOpen C.prog →
   Calls C.prog f args W λe l=>∃v,e=.returned v∧s.post enc C.prog fn apart B b D W args v l):
  ReturnsInHanded a C os f .any (λw args=>(s.pre enc C.prog fn A apart w args∧X w args)∧sizedMet enc C.prog fn (OpenSpec.ofChange s) apart w args) (s.post enc C.prog fn apart B b D):=by
 refine returnsInHanded_of_calls own c O U ?_;intro w tape i _ T _ m g _;obtain⟨_,_,_,h,k,_,_,_,_,I⟩:=m;have e:h=fn:=da (k.symm.trans hfn);subst e;obtain⟨⟨⟨V,n,N,hw,_⟩,hx⟩,_⟩:=g;have o:=DataW.Whole.of_heap (w':=w.forCall tape i) (by rfl) hw;refine(d (w.forCall tape i) w.heap.size i.args V n N I o (Y _ _ _ (by rfl) hx) T).mono λe l ⟨v,he,p⟩=>?_;subst he;exact ChangeSpec.post_blind p
end
open Go.ChangeShapes Go.WideShapes Go.ChangeAt Go.RowKit
section
variable[dw:Go.Ab.bI]
theorem abC{H:Type}{enc:TypeId×Value→H}{P:Program}{w:World}{sp:Nat→Bool}:∀{ns:List String}{a:List (DataW H)}{ps:List MemPlace},DataW.TrodVars enc P w sp ns a ps→a.length=ns.length
 |[],[],_,_=>rfl
 |[],_::_,_,h=>h.elim
 |_::_,[],_,h=>h.elim
 |n::ns,d::V,ps,h=>by
  obtain⟨_,_,_,_,_,_,_,_,_,_,hs,_⟩:=h;simp[abC hs]
theorem aeW{H:Type}{enc:TypeId×Value→H}{P:Program}{f:Func}{s:ChangeSpec}{W l:World}{args:Array Value}{V n:List (DataW H)}{N:List MemPlace}{a:TypeId}(B:DataW.Whole enc P f.params.toList s.vars false W args.toList V n N)(r:varsRowed P s.vars=true)
  (hs:s.fn H (V++n)={results:=[.lit (.bool true)],args:=V,vars:=n}) (hl:laidOutB P=true) (M:(f.params.toList.all λt=>P.readableRec t&&decide (t<P.types.size))=true) (b:f.resultTypes = #[a]) (c:P.underlying a=some .bool)
  (hb:Below W.heap.size W l):s.post enc P f false true false false W args (.bool true) l:=by
 have I:=B;obtain⟨p,q,hA,d,e,E,Z⟩:=B;have g:∀x∈p,x.block<W.heap.size:=λx hx=>I.lt x (by rw[e];simp[hx]);refine⟨V,n,N,[],p,q,I,?_,?_,?_,hb.frame _,λh=>Cc⟩
 ·rw[hs,b];exact trodAll_mk1 (shut_bool c true)
 ·rw[hs];refine aat hl hb (λt ht=>?_) hA g;have:=ak.1 M t ht;simpa using this
 ·rw[hs];exact Below.trodVars hl hb r d
theorem agT {H : Type} {enc : TypeId × Value → H} {P : Program} {f : FuncId} {fn : Func} {c : Code} (hf : P.funcs[f]? = some fn) (r : (fn.name == "runtime.NumGoroutine") = false) (hb : fn.body = some c) {s : ChangeSpec} (d : varsRowed P s.vars = true)
  (u:∀V n:List (DataW H),V.length=fn.params.toList.length→n.length=s.vars.length→s.fn H (V++n)={results:=[.lit (.bool true)],args:=V,vars:=n}) (hl:laidOutB P=true) (M:(fn.params.toList.all λt=>P.readableRec t&&decide (t<P.types.size))=true) {x:TypeId}
  (g:fn.resultTypes = #[x]) (k:P.underlying x=some .bool) {xs:List ASh} (T:fn.params.toList.map (shA P)=xs.map some) (m:∀a,aar xs a→iW P f a [] (.bool true) [])
  (W:World) (A:sC (λb=>b<W.heap.size) W) (base:Nat) (args:Array Value) (V n:List (DataW H)) (N:List MemPlace) (I:∀(j:Nat) t v,fn.params[j]?=some t→args[j]?=some v→Value.okWide P W .any base t v) (B:DataW.Whole enc P fn.params.toList s.vars false W args.toList V n N):
  Calls P f args W λe l=>∃v,e=.returned v∧s.post enc P fn false true false false W args v l:=by
 have o:=B;obtain⟨p,q,hA,w,_,_,_⟩:=B;have y:=abC w;obtain⟨a,h1,h2,z,C⟩:=adq T hA λj t v ht h=>I j t v (by simpa using ht) c8;refine(ahv hf r hb (m a z) A (by simpa using h1.symm) λi p D=>?_).mono λe l ⟨he,hb⟩=>⟨_,he,aeW o d (u V n h2 y) hl M g k hb⟩;obtain⟨v,h,E⟩:=C i p D;have F:args[i]?=some v:=c8
 rw[ax,F];exact E
end
end Go.Ab
