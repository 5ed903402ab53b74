/- Lemmas for ScriptRuns. -/
set_option maxRecDepth 100000
set_option maxHeartbeats 4000000
set_option linter.unusedVariables false
set_option linter.unusedSimpArgs false
namespace Go.Proofs.YthcbjeeajoliiaaGreatDoor
namespace Cr
abbrev Str:=List UInt8
structure jk where
  name:Str
  value:Str
deriving DecidableEq
structure gQ where
  method:Str
  target:Str
  fields:List jk
  body:Str
  close:Bool
deriving DecidableEq
structure bK where
  status:Int
  fields:List jk
  body:Str
  close:Bool
deriving DecidableEq
structure fH where
  method:Str
  pattern:Str
  handler:Str
deriving DecidableEq
structure BX where
  name:Str
  value:Str
deriving DecidableEq
structure rG where
  handler:Str
  params:List BX
  allow:List Str
deriving DecidableEq
structure Wn where
  ah:Int
  jobs:Int
  workers:Int
  window:Int
  idle:Int
  drain:Int
  token:Str
deriving DecidableEq
structure jo where
  kind:Int
  conn:Int
  n:Int
  data:Str
deriving DecidableEq
structure Dn where
  conn:Int
  seq:Int
  version:Int
  req:gQ
  kW:bK
deriving DecidableEq
def gQ.nil:gQ:=⟨[],[],[],[],false⟩
def bK.nil:bK:=⟨0,[],[],false⟩
def letter (c:UInt8):Bool:=decide (97≤(c|||32))&&decide ((c|||32)≤122)
def mark (c:UInt8):Bool:=[33,35,36,37,38,39,42,43,45,46,94,95,124,126,96].contains c||(letter c||(decide (48≤c)&&decide (c≤57)))
def token (s:Str):Bool:=s.all mark&&!s.isEmpty
def lower (s:Str):Str:=s.map fun c=>if 65≤c∧c≤90 then c+32 else c
def blank (c:UInt8):Bool:=c==32||c==9
def trim (s:Str):Str:=((s.dropWhile blank).reverse.dropWhile blank).reverse
def value (s:Str):Bool:=s.all fun c=>!(decide (c<32)&&c !=9||c==127)
def digit (c:UInt8) (base:Int):Int:=
  let n:Int:=if 48≤c∧c≤57 then(c.toNat:Int)-48 else if 97≤(c|||32)∧(c|||32)≤102 then((c|||32).toNat:Int)-97+10 else-1
  if base≤n then-1 else n
def uM (base:Int):Str→Int→Option Int
  |[],x=>some x
  |c::s,x=>if digit c base<0 then none else if 1073741824<x*base+digit c base then none else uM base s (x*base+digit c base)
def number (s:Str) (base:Int):Int×Bool:=match uM base s 0 with
  |some x=>(x,!s.isEmpty)
  |none=>(0,false)
def ik (b:UInt8) (cur:Str):Str→List Str
  |[]=>[cur]
  |c::s=>if c=b then cur::ik b [] s else ik b (cur++[c]) s
def words (s:Str) (b:UInt8):List Str:=ik b [] s
def rH (x:UInt8) (b:Str):jo×Str:=
  let kd:Int:=(x.toNat:Int)%16
  let cn:Int:=(x.toNat:Int)/16
  let n:Int:=((b.headD 0).toNat:Int)
  if kd=1 then
    let m:=min (b.tail.headD 0).toNat b.tail.tail.length
    (⟨kd,cn,n,b.tail.tail.take m⟩,b.tail.tail.drop m)
  else(⟨kd,cn,n,[]⟩,b.tail)
def decode:Nat→Str→List jo
  |0,_=>[]
  |_+1,[]=>[]
  |k+1,x::b=>(rH x b).1::decode k (rH x b).2
theorem Ce (x:UInt8) (b:Str):(rH x b).2.length≤b.length:=by unfold rH;dsimp only;split;(·simp only[List.length_drop,List.length_tail];omega);(·simp only[List.length_tail];omega)
theorem Dq:∀(k m:Nat) (b:Str),b.length<k→b.length<m→decode k b=decode m b
  |0,_,_,h,_=>by omega
  |_,0,_,_,h=>by omega
  |k+1,m+1,[],_,_=>rfl
  |k+1,m+1,x::b,h1,h2=>by
    have:=Ce x b
    simp only[List.length_cons]at h1 h2
    simp only[decode]
    rw[Dq k m _ (by omega) (by omega)]
def jq (b:Str):List jo:=decode (b.length+1) b
theorem IE:jq []=[]:=rfl
theorem EX (x:UInt8) (b:Str):jq (x::b)=(rH x b).1::jq (rH x b).2:=by unfold jq;simp only[decode];have:=Ce x b;rw[Dq _ ((rH x b).2.length+1) _ (by simp only[List.length_cons];omega) (by omega)]
end Cr
namespace Cr
end Cr
namespace Cr
structure Hd where
  req:gQ
  length:Int
  status:Int
deriving DecidableEq
def Hd.nil:Hd:=⟨gQ.nil,0,0⟩
def bV (st:Int):Hd:=⟨gQ.nil,0,st⟩
def colon:Str→Option (Str×Str)
  |[]=>none
  |c::s=>if c=58 then some ([],s)else(colon s).map fun p=>(c::p.1,p.2)
def kQ (l:Str):jk×Bool:=match colon l with
  |none=>(⟨[],[]⟩,false)
  |some (a,b)=>(⟨lower a,trim b⟩,token a&&value (trim b))
def allOf (l:List jk) (name:Str):List Str:=(l.filter fun f=>f.name==name).map (·.value)
def Du:Str:=[104,111,115,116]
def jM:Str:=[99,111,110,116,101,110,116,45,108,101,110,103,116,104]
def lQ:Str:=[116,114,97,110,115,102,101,114,45,101,110,99,111,100,105,110,103]
def dS:Str:=[99,111,110,110,101,99,116,105,111,110]
def oh:Str:=[99,108,111,115,101]
def xG:Str:=[99,104,117,110,107,101,100]
def Rk:Str:=[72,84,84,80,47,49,46,49]
def closes (fs:List jk):Bool:=(allOf fs dS).any fun v=>(words v 44).any fun w=>lower (trim w)==oh
def frame (r:gQ):Hd:=
  let hosts:=allOf r.fields Du
  let lengths:=allOf r.fields jM
  let codings:=allOf r.fields lQ
  if hosts.length≠1∨1<lengths.length∨(0<lengths.length∧0<codings.length)then bV 400
  else
    let h:Hd:=⟨{r with close:=r.close||closes r.fields},0,0⟩
    match codings with
    |[c]=>if lower c==xG then{h with length:= -1}else bV 501
    |_::_::_=>bV 501
    |[]=>match lengths with
      |[v]=>let n:=number v 10;if n.2 then(if 600<n.1 then bV 413 else{h with length:=n.1})else bV 400
      |_=>h
def fieldsGo (acc:List jk):List Str→Option (List jk)
  |[]=>some acc
  |l::ls=>let f:=kQ l;if f.2 then fieldsGo (acc++[f.1]) ls else none
def iR:List Str→Hd
  |[]=>bV 400
  |l0::ls=>
    if 200<l0.length∨16<ls.length then bV 431 else
    match words l0 32 with
    |[m,t,v]=>
      if token m&&t.headD 0==47&&value t then
        if v==Rk then match fieldsGo [] ls with
          |some fs=>frame ⟨m,t,fs,[],false⟩
          |none=>bV 400
        else bV 400
      else bV 400
    |_=>bV 400
structure bu where
  chunked:Bool
  left:Int
  state:Int
  line:Str
  data:Str
  status:Int
  done:Bool
deriving DecidableEq
def bu.new (length:Int):bu:=⟨decide (length<0),max length 0,0,[],[],0,decide (length=0)⟩
def bu.fail (b:bu) (st:Int):bu:={b with done:=true,status:=st}
def bu.take (b:bu) (c:UInt8):bu:=if b.data.length=600 then b.fail 413 else{b with data:=b.data++[c],left:=b.left-1}
def bu.whole (b:bu) (line:Str):bu:=
  if b.state=0 then
    let n:=number ((words line 59).headD []) 16
    if n.2 then(if n.1=0 then{b with state:=3}else if 600<n.1 then b.fail 413 else{b with state:=1,left:=n.1})else b.fail 400
  else if b.state=2 then{(if line=[]then b else b.fail 400)with state:=0}
  else{b with done:=line.isEmpty}
def bu.feed (b:bu) (c:UInt8):bu:=
  if b.done then b
  else if !b.chunked then let b1:=b.take c;{b1 with done:=b1.done||b1.left==0}
  else if b.state=1 then let b1:=b.take c;if b1.left=0 then{b1 with state:=2}else b1
  else
    let ln:=b.line++[c]
    let b1:={b with line:=ln}
    if 200<ln.length then b1.fail 431
    else if c≠10 then(if 1<ln.length∧ln.getD (ln.length-2) 0=13 then b1.fail 400 else b1)
    else if ln.length<2∨ln.getD (ln.length-2) 0≠13 then b1.fail 400
    else{b1 with line:=[]}.whole (ln.take (ln.length-2))
structure aU where
  wait:Str
  lines:List Str
  line:Str
  size:Int
  head:Hd
  body:Option bu
  status:Int
  done:Bool
deriving DecidableEq
def aU.new:aU:=⟨[],[],[],0,Hd.nil,none,0,false⟩
def aU.feed (c:aU) (s:Str):aU:=if c.done then c else{c with wait:=c.wait++s}
def aU.fail (c:aU) (st:Int):aU:={c with done:=true,status:=st,wait:=[]}
def aU.ends (c:aU) (b:bu):aU×Option gQ:=
  if b.status≠0 then(c.fail b.status,none)
  else
    let r:={c.head.req with body:=b.data}
    let c1:={c with body:=none,size:=0,lines:=[]}
    (if r.close then c1.fail 0 else c1,some r)
def aU.byte (c:aU) (b:UInt8):aU:=
  let c1:={c with size:=c.size+1}
  if 1000<c1.size then c1.fail 431
  else
    let ln:=c1.line++[b]
    let c2:={c1 with line:=ln}
    let n:=ln.length
    if b≠10∧1<n∧ln.getD (n-2) 0=13 then c2.fail 400
    else if b≠10 then c2
    else if n<2∨ln.getD (n-2) 0≠13 then c2.fail 400
    else if n=2∧c.lines=[]then{c2 with line:=[],size:=0}
    else if n=2 then
      let h:=iR c.lines
      let c3:={c2 with line:=[],head:=h}
      if h.status≠0 then c3.fail h.status else{c3 with body:=some (bu.new h.length)}
    else{c2 with lines:=c.lines++[ln.take (n-2)],line:=[]}
def aU.dR:Nat→aU→aU×Option gQ
  |0,c=>(c,none)
  |k+1,c=>
    if c.done then(c,none)else
    match c.body with
    |some b=>if b.done then c.ends b else match c.wait with
      |[]=>(c,none)
      |x::w=>aU.dR k {c with wait:=w,body:=some (b.feed x)}
    |none=>match c.wait with
      |[]=>(c,none)
      |x::w=>aU.dR k ({c with wait:=w}.byte x)
def aU.next (c:aU):aU×Option gQ:=aU.dR (c.wait.length+1) c
def jO (st:Int):Str:=
  if st=200 then [79,75]
  else if st=201 then [67,114,101,97,116,101,100]
  else if st=400 then [66,97,100,32,82,101,113,117,101,115,116]
  else if st=401 then [85,110,97,117,116,104,111,114,105,122,101,100]
  else if st=404 then [78,111,116,32,70,111,117,110,100]
  else if st=405 then [77,101,116,104,111,100,32,78,111,116,32,65,108,108,111,119,101,100]
  else if st=409 then [67,111,110,102,108,105,99,116]
  else if st=412 then [80,114,101,99,111,110,100,105,116,105,111,110,32,70,97,105,108,101,100]
  else if st=413 then [67,111,110,116,101,110,116,32,84,111,111,32,76,97,114,103,101]
  else if st=431 then [82,101,113,117,101,115,116,32,72,101,97,100,101,114,32,70,105,101,108,100,115,32,84,111,111,32,76,97,114,103,101]
  else if st=500 then [73,110,116,101,114,110,97,108,32,83,101,114,118,101,114,32,69,114,114,111,114]
  else if st=501 then [78,111,116,32,73,109,112,108,101,109,101,110,116,101,100]
  else if st=503 then [83,101,114,118,105,99,101,32,85,110,97,118,97,105,108,97,98,108,101]
  else if st=507 then [73,110,115,117,102,102,105,99,105,101,110,116,32,83,116,111,114,97,103,101]
  else [85,110,107,110,111,119,110]
def aH (st:Int) (closes:Bool):bK:=⟨st,[],jO st++[10],closes⟩
def mG:Nat→Str→Str→Option Str
  |0,_,_=>none
  |_+1,out,[]=>some out
  |k+1,out,c::s=>
    if c≠37 then mG k (out++[c]) s
    else match s with
      |a::b::s'=>let n:=number [a,b] 16;if n.2 then mG k (out++[UInt8.ofNat n.1.toNat]) s' else none
      |_=>none
def turn (s:Str):Option Str:=mG (s.length+1) [] s
def kR:List Str→Option (List Str)
  |[]=>some []
  |s::l=>match turn s with
    |none=>none
    |some t=>(kR l).map (t::·)
def split (target:Str):Option (List Str):=
  match (words target 63).headD []with
  |[]=>none
  |c::s=>if c≠47 then none else if s=[]then some []else
    let l:=words s 47
    if 8<l.length then none else kR l
def kindOf (s:Str):Nat:=match s with
  |c::_=>if c=58 then 1 else if c=42 then 2 else 0
  |[]=>0
def dN (last:Nat):Nat→List Str→List Str→Bool
  |_,_,[]=>true
  |i,names,x::l=>
    if kindOf x=0 then(if token x&&(words x 37).headD []==x then dN last (i+1) names l else false)
    else if kindOf x=2∧i≠last then false
    else if token (x.drop 1)&&!names.contains (x.drop 1)then dN last (i+1) (x.drop 1::names) l else false
def pattern (s:Str):List Str×Bool:=
  match s with
  |[]=>([],false)
  |c::r=>if c≠47 then([],false)else if r=[]then([],true)else
    let l:=words r 47
    if dN (l.length-1) 0 [] l then(l,decide (l.length≤8))else([],false)
def shape:List Str→Str
  |[]=>[]
  |x::l=>(if kindOf x=0 then 47::x else if kindOf x=1 then [47,58]else [47,42])++shape l
def dO:List Str→Str
  |[]=>[]
  |[x]=>x
  |x::l=>x++47::dO l
def handlers:List Str:=[[103,101,116],[112,117,116],[100,101,108,101,116,101],[108,105,115,116],[119,97,108,107],[104,101,97,108,116,104],[114,101,108,111,97,100],[115,104,117,116,100,111,119,110]]
def dU (r:fH):Bool:=(pattern r.pattern).2&&token r.method&&handlers.contains r.handler
def oq:List (Str×Str)→List fH→Bool
  |_,[]=>false
  |seen,r::l=>let k:=(r.method,shape (pattern r.pattern).1);if seen.contains k then true else oq (k::seen) l
def bG (l:List fH):Int:=
  if !l.all dU then 1 else if 24<l.length then 2 else if oq [] l then 3 else 0
def parseLines (out:List fH):List Str→Option (List fH)
  |[]=>some out
  |l::ls=>match (words l 32).filter (fun x=>!x.isEmpty)with
    |[]=>parseLines out ls
    |[m,p,h]=>parseLines (out++[⟨m,p,h⟩]) ls
    |_=>none
def bD (s:Str):List fH×Int:=match parseLines [] (words s 10)with
  |none=>([],1)
  |some l=>let e:=bG l;if e≠0 then([],e)else(l,0)
inductive Node where
  |mk (ady:List (Str×Node)) (next param rest:Option Node) (ends:List fH)
def Node.ady:Node→List (Str×Node)| .mk e _ _ _ _=>e
def Node.next:Node→Option Node| .mk _ n _ _ _=>n
def Node.param:Node→Option Node| .mk _ _ p _ _=>p
def Node.rest:Node→Option Node| .mk _ _ _ r _=>r
def Node.ends:Node→List fH| .mk _ _ _ _ e=>e
def Node.empty:Node:=.mk [] none none none []
def common:Str→Str→Nat
  |a::x,b::y=>if a=b then common x y+1 else 0
  |_,_=>0
def nJ (Rl:Option Node→Node):Nat→Node→Str→Node
  |0,n,_=>n
  |k+1,.mk es nx p r e,s=>
    if s=[]then .mk es (some (Rl nx)) p r e
    else match es.findIdx? (fun x=>common x.1 s≠0)with
      |none=>.mk (es++[(s,.mk [] (some (Rl none)) none none [])]) nx p r e
      |some i=>match es[i]? with
        |none=>.mk es nx p r e
        |some (t,t2)=>
          let c:=common t s
          if c=t.length then .mk (es.set i (t,nJ Rl k t2 (s.drop c))) nx p r e
          else .mk (es.set i (t.take c,nJ Rl k (.mk [(t.drop c,t2)] none none none []) (s.drop c))) nx p r e
def lq (r:fH):List Str→Option Node→Node
  |[],n=>match n.getD .empty with| .mk es nx p rs e=>.mk es nx p rs (e++[r])
  |x::l,n=>
    if kindOf x=0 then nJ (lq r l) (x.length+1) (n.getD .empty) x
    else match n.getD .empty with
      | .mk es nx p rs e=>if kindOf x=1 then .mk es nx (some (lq r l p)) rs e
        else .mk es nx p (some (match rs.getD .empty with| .mk es' nx' p' rs' e'=>.mk es' nx' p' rs' (e'++[r]))) e
def dV:Option Node→List fH→Option Node
  |n,[]=>n
  |n,r::l=>dV (some (lq r (pattern r.pattern).1 n)) l
end Cr
namespace Cr
def Rw:Nat→Nat→Str→Str
  |0,_,acc=>acc
  |k+1,n,acc=>if n<10 then UInt8.ofNat (48+n)::acc else Rw k (n/10) (UInt8.ofNat (48+n%10)::acc)
def dec (n:Nat):Str:=Rw (n+1) n []
def itoa (n:Int):Str:=if n<0 then 45::dec n.natAbs else dec n.toNat
def hexDigit (n:Nat):UInt8:=if n<10 then UInt8.ofNat (48+n)else UInt8.ofNat (87+n)
def FD:Nat→Nat→Str→Str
  |0,_,acc=>acc
  |k+1,n,acc=>if n<16 then hexDigit n::acc else FD k (n/16) (hexDigit (n%16)::acc)
def hexOf (n:Nat):Str:=FD (n+1) n []
def ltStr:Str→Str→Bool
  |[],[]=>false
  |[],_::_=>true
  |_::_,[]=>false
  |a::x,b::y=>if a<b then true else if a=b then ltStr x y else false
def zL (x:Str):List Str→List Str
  |[]=>[x]
  |y::l=>if ltStr y x then y::zL x l else x::y::l
def sortStr:List Str→List Str
  |[]=>[]
  |x::l=>zL x (sortStr l)
def dZ:Node→Str→Option Node
  | .mk es nx _ _ _,s=>if s=[]then nx else jv es s
where jv:List (Str×Node)→Str→Option Node
  |[],_=>none
  |(t,t2)::es,s=>if common t s=t.length then dZ t2 (s.drop t.length)else jv es s
def gy:List Str→Option Node→List (List fH)
  |_,none=>[]
  |[],some n=>if n.ends=[]then []else [n.ends]
  |x::l,some n=>
    (if x=[]then []else gy l (dZ n x)++gy l n.param)++
      (match n.rest with|none=>[]|some r=>[r.ends])
def qm (l:List Str) (i:Nat):Str:=dO (l.drop i)
def gB (l:List Str):Nat→List Str→List BX
  |_,[]=>[]
  |i,s::p=>
    (if kindOf s=1 then [⟨s.drop 1,l.getD i []⟩]else if kindOf s=2 then [⟨s.drop 1,qm l i⟩]else [])++gB l (i+1) p
def params (r:fH) (l:List Str):List BX:=gB l 0 (pattern r.pattern).1
def jb (method:Str):List Str→List fH→Sum fH (List Str)
  |al,[]=>.inr al
  |al,r::rs=>if r.method=method then .inl r else jb method (if al.contains r.method then al else al++[r.method]) rs
def nG (method:Str):List Str→List (List fH)→Sum fH (List Str)
  |al,[]=>.inr al
  |al,e::es=>match jb method al e with
    | .inl r=>.inl r
    | .inr al'=>nG method al' es
def dY (t:Option Node) (method:Str) (l:List Str):rG×Bool:=
  match nG method [] (gy l t)with
  | .inl r=>(⟨r.handler,params r l,[]⟩,true)
  | .inr al=>(⟨[],[],sortStr al⟩,false)
structure iJ where
  root:Option Node
  version:Int
  routes:List fH
def iJ.set (s:iJ) (l:List fH):iJ:=
  let l':=if bG l≠0 then []else l
  ⟨dV none l',s.version+1,l'⟩
structure jw where
  owner:Int
  vals:List (Str×Str)
structure aG where
  sh:List jw
def aG.new:aG:=⟨[⟨0,[]⟩,⟨0,[]⟩,⟨0,[]⟩,⟨0,[]⟩]⟩
def jw.nil:jw:=⟨0,[]⟩
def aG.at (s:aG) (i:Nat):jw:=s.sh.getD i .nil
def aG.put (s:aG) (i:Nat) (x:jw):aG:=⟨s.sh.set i x⟩
def tY:Nat→Str→Nat
  |n,[]=>n
  |n,c::s=>tY ((n*31+c.toNat)%997) s
def bM (key:Str):Nat:=tY 0 key%4
def fnv:Nat→Str→Nat
  |n,[]=>n
  |n,c::s=>fnv ((n^^^c.toNat)*16777619%4294967296) s
def rV (v:Str):Str:=hexOf (fnv 2166136261 v)++45::itoa v.length
def rW (key:Str):Bool:=!key.isEmpty&&decide (key.length≤40)
def lookup (key:Str):List (Str×Str)→Option Str
  |[]=>none
  |(k,v)::l=>if k=key then some v else lookup key l
def iC (key value:Str):List (Str×Str)→List (Str×Str)
  |[]=>[(key,value)]
  |(k,v)::l=>if k=key then(key,value)::l else(k,v)::iC key value l
def aG.free (s:aG) (owner:Int) (i:Int):Bool:=decide (0<owner)&&decide (0≤i)&&decide (i<4)&&((s.at i.toNat).owner==0||(s.at i.toNat).owner==owner)
def aG.lock (s:aG) (owner:Int) (i:Int):aG:=if s.free owner i then s.put i.toNat {s.at i.toNat with owner:=owner}else s
def aG.unlock (s:aG) (owner:Int):aG:=⟨s.sh.map fun x=>if 0<owner∧x.owner=owner then{x with owner:=0}else x⟩
def aG.held (s:aG) (owner:Int):Nat:=(s.sh.filter fun x=>decide (0<owner∧x.owner=owner)).length
def aG.mine (s:aG) (owner:Int) (key:Str):Int:=if !rW key then 8 else if owner≤0∨(s.at (bM key)).owner≠owner then 7 else 0
def aG.get (s:aG) (owner:Int) (key:Str):Str×Int:=
  let e:=s.mine owner key
  if e≠0 then([],e)else match lookup key (s.at (bM key)).vals with
    |none=>([],5)
    |some v=>(v,0)
def aG.mW (s:aG) (owner:Int) (key value tag:Str):aG×Bool×Int:=
  let e:=s.mine owner key
  if e≠0 then(s,false,e)else
    let x:=s.at (bM key)
    let old:=lookup key x.vals
    if tag≠[]∧(old.isNone∨rV (old.getD [])≠tag)then(s,false,6)
    else if old.isNone∧x.vals.length=8 then(s,false,4)
    else(s.put (bM key) {x with vals:=iC key value x.vals},old.isSome,0)
def aG.delete (s:aG) (owner:Int) (key tag:Str):aG×Int:=
  let e:=s.mine owner key
  if e≠0 then(s,e)else
    let x:=s.at (bM key)
    match lookup key x.vals with
    |none=>(s,5)
    |some old=>if tag≠[]∧rV old≠tag then(s,6)
      else(s.put (bM key) {x with vals:=x.vals.filter fun p=>!(p.1==key)},0)
def aG.list (s:aG) (owner:Int) (ahn:Str):List Str×Int:=
  if s.held owner≠4 then([],7)
  else(sortStr ((s.sh.flatMap fun x=>x.vals.map (·.1)).filter fun k=>ahn.isPrefixOf k),0)
structure fO where
  ax:Int
  ay:Int
  tx:Int
  ty:Int
def fO.step (w:fO) (c:UInt8):Option fO:=
  if c=70 then some ⟨w.ax+w.tx,w.ay+w.ty,w.tx,w.ty⟩
  else if c=66 then some ⟨w.ax-w.tx,w.ay-w.ty,w.tx,w.ty⟩
  else if c=76 then some ⟨w.ax,w.ay,-w.ty,w.tx⟩
  else if c=82 then some ⟨w.ax,w.ay,w.ty,-w.tx⟩
  else none
def nK:fO→Str→Option fO
  |w,[]=>some w
  |w,c::s=>match w.step c with
    |none=>none
    |some w'=>nK w' s
def vX (s:Str):Option fO:=if 40<s.length then none else nK ⟨0,0,1,0⟩ s
def fO.text (w:fO):Str:=itoa w.ax++32::(itoa w.ay++32::(itoa w.tx++32::itoa w.ty))
structure aW where
  req:gQ
  conn:Int
  seq:Int
  version:Int
  eH:rG
  found:Bool
  token:Str
def aW.nil:aW:=⟨gQ.nil,0,0,0,⟨[],[],[]⟩,false,[]⟩
structure aJ where
  store:aG
  table:iJ
  token:Str
  stop:Bool
def pJ:Str:=[71,69,84,32,47,104,101,97,108,116,104,32,104,101,97,108,116,104,10,80,79,83,84,32,47,97,100,109,105,110,47,114,111,117,116,101,115,32,114,101,108,111,97,100,10,80,79,83,84,32,47,97,100,109,105,110,47,115,116,111,112,32,115,104,117,116,100,111,119,110,10,71,69,84,32,47,107,118,47,58,107,101,121,32,103,101,116,10,80,85,84,32,47,107,118,47,58,107,101,121,32,112,117,116,10,68,69,76,69,84,69,32,47,107,118,47,58,107,101,121,32,100,101,108,101,116,101,10,71,69,84,32,47,108,105,115,116,47,42,112,114,101,102,105,120,32,108,105,115,116,10,71,69,84,32,47,119,97,108,107,47,58,109,111,118,101,115,32,119,97,108,107,10]
def dD:List fH:=(bD pJ).1
def aJ.new (token:Str) (l:List fH):aJ:=⟨aG.new,iJ.set ⟨none,0,[]⟩ l,token,false⟩
def aJ.route (w:aJ) (r:gQ) (conn seq:Int):aW:=
  match split r.target with
  |none=>⟨r,conn,seq,w.table.version,⟨[],[],[]⟩,false,w.token⟩
  |some l=>let m:=dY w.table.root r.method l;⟨r,conn,seq,w.table.version,m.1,m.2,w.token⟩
def aW.param (c:aW):Str:=match c.eH.params with
  |[]=>[]
  |p::_=>p.value
def zM:Str:=[103,101,116]
def yX:Str:=[112,117,116]
def jm:Str:=[100,101,108,101,116,101]
def qG:Str:=[108,105,115,116]
def FI:Str:=[119,97,108,107]
def yM:Str:=[114,101,108,111,97,100]
def ru:Str:=[115,104,117,116,100,111,119,110]
def aW.needs (c:aW):List Int:=
  if !c.found then []else if c.eH.handler=qG then [0,1,2,3]
  else if c.eH.handler=zM∨c.eH.handler=yX∨c.eH.handler=jm then [(bM c.param:Nat)]else []
def kL (st:Int) (body:Str):bK:=⟨st,[],body,false⟩
def failed (e:Int):bK:=if e=5 then aH 404 false else if e=6 then aH 412 false else if e=4 then aH 507 false else if e=8 then aH 400 false else aH 500 false
def uP:Str:=[105,102,45,109,97,116,99,104]
def Rx:Str:=[101,116,97,103]
def zN:Str:=[116,111,107,101,110]
def Ky:Str:=[97,108,108,111,119]
def WN:Str:=[120,45,105,100]
def uQ:Str:=[120,45,118,101,114,115,105,111,110]
def Kz:Str:=[47,97,100,109,105,110,47]
def KA:Str:=[71,69,84]
def PV:Str:=[80,85,84]
def FK:Str:=[80,79,83,84]
def qU:Str:=[68,69,76,69,84,69]
def TI:Str:=[115,116,111,112,112,105,110,103]
def adR:Str:=[102,105,110,101]
def dW (sep:Str):List Str→Str
  |[]=>[]
  |[x]=>x
  |x::l=>x++(sep++dW sep l)
def aW.tag (c:aW):Str:=(allOf c.req.fields uP).headD []
def aJ.answer (w:aJ) (c:aW) (owner:Int):aJ×bK:=
  if c.eH.handler=zM then
    let r:=w.store.get owner c.param
    if r.2≠0 then(w,failed r.2)else(w,{kL 200 r.1 with fields:=[⟨Rx,rV r.1⟩]})
  else if c.eH.handler=yX then
    let r:=w.store.mW owner c.param c.req.body c.tag
    if r.2.2≠0 then({w with store:=r.1},failed r.2.2)else({w with store:=r.1},kL (if r.2.1 then 200 else 201) [])
  else if c.eH.handler=jm then
    let r:=w.store.delete owner c.param c.tag
    if r.2≠0 then({w with store:=r.1},failed r.2)else({w with store:=r.1},kL 200 [])
  else if c.eH.handler=qG then
    let r:=w.store.list owner c.param
    if r.2≠0 then(w,failed r.2)else(w,kL 200 (dW [10] r.1))
  else if c.eH.handler=FI then match vX c.param with
    |none=>(w,aH 400 false)
    |some x=>(w,kL 200 x.text)
  else if c.eH.handler=yM then
    let p:=bD c.req.body
    if p.2=0 then let t:=w.table.set p.1;({w with table:=t},kL 200 (itoa t.version))
    else if p.2=3 then(w,aH 409 false)else(w,aH 400 false)
  else if c.eH.handler=ru then({w with stop:=true},kL 200 TI)
  else(w,kL 200 adR)
def aJ.inner (w:aJ) (c:aW) (owner:Int):aJ×bK:=
  if !(c.req.method=KA∨c.req.method=PV∨c.req.method=FK∨c.req.method=qU)then(w,aH 501 false)
  else if c.req.body≠[]∧(c.req.method=KA∨c.req.method=qU)then(w,aH 400 false)
  else if c.token≠[]∧Kz.isPrefixOf c.req.target=true∧allOf c.req.fields zN≠[c.token]then(w,aH 401 false)
  else if c.found then w.answer c owner
  else if c.eH.allow≠[]then(w,{aH 405 false with fields:=[⟨Ky,dW [44,32] c.eH.allow⟩]})
  else(w,aH 404 false)
def aJ.do (w:aJ) (c:aW) (owner:Int):aJ×bK:=
  let r:=w.inner c owner
  (r.1,{r.2 with fields:=⟨WN,itoa c.conn++45::itoa c.seq⟩::⟨uQ,itoa c.version⟩::r.2.fields,close:=r.2.close||c.req.close})
def dQ:List jk→Str
  |[]=>[]
  |f::l=>f.name++(58::32::(f.value++(13::10::dQ l)))
def rX:Str:=[99,111,110,110,101,99,116,105,111,110,58,32,99,108,111,115,101,13,10]
def uS:Str:=[99,111,110,116,101,110,116,45,108,101,110,103,116,104,58,32]
def AZ:Str:=[72,84,84,80,47,49,46,49,32]
def qf (r:bK):Str:=
  AZ++itoa r.status++32::(jO r.status++13::10::(dQ r.fields++((if r.close then rX else [])++(uS++(itoa r.body.length++(13::10::13::10::r.body))))))
structure kY where
  conn:Int
  seq:Int
  req:gQ
def kY.nil:kY:=⟨0,0,gQ.nil⟩
structure dA where
  cap:Nat
  jobs:List kY
def dA.new (n:Int):dA:=⟨(min (max n 1) 16).toNat,[]⟩
structure dB where
  win:Nat
  out:Nat
  slots:List (Option bK)
def dB.new (n:Int):dB:=⟨(min (max n 1) 8).toNat,0,[]⟩
def dB.given (b:dB):Nat:=b.out+b.slots.length
def dB.room (b:dB):Nat:=b.win-b.slots.length
def dB.give (b:dB):dB:=if b.slots.length=b.win then b else{b with slots:=b.slots++[none]}
def dB.uC (b:dB) (n:Int) (r:bK):dB:=
  if n<b.out∨b.given≤n then b else
    let i:=(n-b.out).toNat
    match b.slots.getD i none with
    |some _=>b
    |none=>{b with slots:=b.slots.set i (some r)}
def dB.ready (b:dB):Bool:=match b.slots with
  |some _::_=>true
  |_=>false
structure fJ where
  inp:List Str
  came:Int
  shut:Bool
  reset:Bool
  taken:Bool
  closed:Bool
  written:Str
def fJ.new:fJ:=⟨[],0,false,false,false,false,[]⟩
structure bg where
  ah:List fJ
  dials:List Nat
def bg.at (n:bg) (i:Int):Option fJ:=if i<0 then none else n.ah[i.toNat]?
def bg.set (n:bg) (i:Int) (c:fJ):bg:={n with ah:=n.ah.set i.toNat c}
def bg.dial (n:bg):bg:=⟨n.ah++[fJ.new],n.dials++[n.ah.length]⟩
def bg.send (n:bg) (i:Int) (s:Str):bg×Bool:=match n.at i with
  |none=>(n,false)
  |some c=>if c.shut||c.reset||c.closed||s.isEmpty then(n,false)else(n.set i {c with inp:=c.inp++[s],came:=c.came+s.length},true)
def bg.shut (n:bg) (i:Int):bg×Bool:=match n.at i with
  |none=>(n,false)
  |some c=>if c.shut||c.reset||c.closed then(n,false)else(n.set i {c with shut:=true},true)
def bg.reset (n:bg) (i:Int):bg×Bool:=match n.at i with
  |none=>(n,false)
  |some c=>if c.reset||c.closed then(n,false)else(n.set i {c with reset:=true,inp:=[]},true)
def bg.accept (n:bg):bg×Nat×Bool:=match n.dials with
  |[]=>(n,0,false)
  |i::l=>match n.ah[i]? with
    |none=>(n,0,false)
    |some c=>(⟨n.ah.set i {c with taken:=true},l⟩,i,true)
def bg.ready (n:bg) (i:Int):Bool:=match n.at i with
  |none=>false
  |some c=>!c.inp.isEmpty||c.shut||c.reset
def bg.read (n:bg) (i:Int):bg×Option Str:=match n.at i with
  |none=>(n,none)
  |some c=>match c.inp with
    |[]=>(n,none)
    |s::l=>(n.set i {c with inp:=l},some s)
def bg.came (n:bg) (i:Int):Int:=match n.at i with
  |none=>0
  |some c=>c.came
def bg.write (n:bg) (i:Int) (s:Str):bg:=match n.at i with
  |none=>n
  |some c=>if c.reset||c.closed then n else n.set i {c with written:=c.written++s}
def bg.close (n:bg) (i:Int):bg:=match n.at i with
  |none=>n
  |some c=>n.set i {c with closed:=true}
def bg.written (n:bg) (i:Int):Str:=match n.at i with
  |none=>[]
  |some c=>c.written
structure aI where
  buf:dB
  id:Int
  cut:aU
  fed:Int
  pending:Option gQ
  over:Bool
  known:Int
  iO:Int
structure aP where
  state:Int
  fD:kY
  call:aW
  needs:List Int
  kW:bK
def aP.nil:aP:=⟨0,kY.nil,aW.nil,[],bK.nil⟩
structure Srv where
  net:bg
  conf:Wn
  world:aJ
  queue:dA
  ah:List aI
  workers:List aP
  now:Int
  mode:Int
  dead:Int
  log:List Dn
  refused:Int
def bring (n most:Int):Int:=min (max n 1) most
def Srv.new (c:Wn):Srv:=
  let c1:Wn:={c with ah:=bring c.ah 8,workers:=bring c.workers 4,idle:=bring c.idle 1073741824,drain:=bring c.drain 1073741824}
  ⟨⟨[],[]⟩,c1,aJ.new c.token dD,dA.new c.jobs,[],List.replicate (bring c.workers 4).toNat .nil,0,0,0,[],0⟩
def aI.late (c:aI):Bool:=decide (0≤c.known)&&decide (c.known≤c.fed)
def Srv.tZ (s:Srv) (c:aI):Bool:=
  if c.over then false else if c.pending.isSome||c.cut.done then decide (0<c.buf.room)else s.net.ready c.id||c.late
def Srv.kS (s:Srv) (i:Nat):Bool:=match s.workers[i]? with
  |none=>false
  |some w=>if w.state=0 then !s.queue.jobs.isEmpty else if w.state=2 then(match w.needs with|[]=>true|k::_=>s.world.store.free ((i:Int)+1) k)else true
inductive kT where
  |accept
  |read (j:Nat)
  |work (i:Nat)
  |write (j:Nat)
def idxs {α:Type} (p:α→Bool):Nat→List α→List Nat
  |_,[]=>[]
  |i,x::l=>if p x then i::idxs p (i+1) l else idxs p (i+1) l
def Srv.able (s:Srv):List kT:=
  (if s.mode=0∧s.net.dials≠[]∧(s.ah.length:Int)<s.conf.ah then [.accept]else [])++
  ((idxs s.tZ 0 s.ah).map .read++
  (((List.range s.workers.length).filter s.kS).map .work++
  (idxs (fun c=>c.buf.ready) 0 s.ah).map .write))
def aI.idle (c:aI):Bool:=c.over&&c.pending.isNone&&c.buf.slots.isEmpty
def closeAll (n:bg):List aI→bg
  |[]=>n
  |c::l=>closeAll (n.close c.id) l
def Srv.settle (s:Srv):Srv:=
  let rest:=s.ah.filter fun c=>!c.idle
  let s1:={s with net:=closeAll s.net (s.ah.filter aI.idle),ah:=rest}
  if s.mode≠1∨rest≠[]∨s.queue.jobs≠[]then s1
  else if s.workers.all (fun w=>w.state==0)then{s1 with mode:=2}else s1
def Srv.drop (s:Srv) (id:Int):Srv:={s with ah:=s.ah.filter fun c=>!(c.id==id)}.settle
def Srv.accept (s:Srv):Srv:=
  let a:=s.net.accept
  {s with net:=a.1,ah:=s.ah++[⟨dB.new s.conf.window,a.2.1,aU.new,0,none,false,-1,s.now⟩]}
def aI.next (c:aI):aI:=match c.cut.next with
  |(k,some r)=>{c with cut:=k,pending:=some r}
  |(k,none)=>{c with cut:=k}
def aI.refuse (c:aI) (r:bK):aI:=
  let n:Int:=if c.buf.slots.length=c.buf.win then 0 else c.buf.given
  let c1:={c with buf:=c.buf.give.uC n r}
  if r.close then{c1 with over:=true}else c1
def Srv.bQ (s:Srv) (c:aI) (r:gQ):Srv×aI:=
  if 0≤c.known∧c.known<c.fed-c.cut.wait.length then(s,c.refuse (aH 503 true))
  else if s.queue.jobs.length=s.queue.cap then({s with refused:=s.refused+1},c.refuse (aH 503 r.close))
  else
    let n:Int:=if c.buf.slots.length=c.buf.win then 0 else c.buf.given
    let c1:={c with buf:=c.buf.give}
    ({s with queue:={s.queue with jobs:=s.queue.jobs++[⟨c.id,n,r⟩]}},if r.close then{c1 with over:=true}else c1)
def Srv.nR (s:Srv) (c:aI):Srv×aI:=
  match c.pending with
  |some r=>let d:=s.bQ {c with pending:=none} r;(d.1,d.2.next)
  |none=>
    if c.cut.done then
      let c1:={c with over:=true}
      (s,if c.cut.status≠0 then c1.refuse (aH c.cut.status true)else c1)
    else match s.net.read c.id with
      |(n,none)=>({s with net:=n},{c with over:=true})
      |(n,some b)=>({s with net:=n},aI.next {c with iO:=s.now,fed:=c.fed+b.length,cut:=c.cut.feed b})
def Srv.read (s:Srv) (j:Nat):Srv:=match s.ah[j]? with
  |none=>s
  |some c=>let d:=s.nR c;{d.1 with ah:=d.1.ah.set j d.2}
def Srv.setW (s:Srv) (i:Nat) (w:aP):Srv:={s with workers:=s.workers.set i w}
def Srv.act (s:Srv) (i:Nat) (w:aP):Srv:=
  let owner:Int:=(i:Int)+1
  if w.call.version≠s.world.table.version then
    {s with world:={s.world with store:=s.world.store.unlock owner}}.setW i {w with state:=1}
  else
    let d:=s.world.do w.call owner
    let s1:={s with world:=d.1,log:=s.log++[(Dn.mk w.fD.conn w.fD.seq w.call.version w.fD.req d.2)]}.setW i {w with kW:=d.2,state:=4}
    if d.1.stop&&!s.world.stop then{s1 with mode:=1,dead:=s.now+s.conf.drain,ah:=s.ah.map fun c=>{c with known:=s.net.came c.id}}else s1
def putAt (id seq:Int) (r:bK):List aI→List aI
  |[]=>[]
  |c::l=>if c.id=id then{c with buf:=c.buf.uC seq r}::l else c::putAt id seq r l
def Srv.work (s:Srv) (i:Nat):Srv:=match s.workers[i]? with
  |none=>s
  |some w=>
    if w.state=0 then match s.queue.jobs with
      |[]=>s.setW i {w with fD:=kY.nil,state:=1}
      |j::l=>{s with queue:={s.queue with jobs:=l}}.setW i {w with fD:=j,state:=1}
    else if w.state=1 then
      let c:=s.world.route w.fD.req w.fD.conn w.fD.seq
      s.setW i {w with call:=c,needs:=c.needs,state:=2}
    else if w.state=2 then match w.needs with
      |[]=>s.setW i {w with state:=3}
      |k::l=>{s with world:={s.world with store:=s.world.store.lock ((i:Int)+1) k}}.setW i {w with needs:=l,state:=if l=[]then 3 else 2}
    else if w.state=3 then s.act i w
    else{s with world:={s.world with store:=s.world.store.unlock ((i:Int)+1)},ah:=putAt w.fD.conn w.fD.seq w.kW s.ah}.setW i .nil
def Srv.write (s:Srv) (j:Nat):Srv:=match s.ah[j]? with
  |none=>s
  |some c=>match c.buf.slots with
    |some r::l=>
      let s1:={s with net:=s.net.write c.id (qf r),ah:=s.ah.set j {c with buf:={c.buf with out:=c.buf.out+1,slots:=l},iO:=s.now}}
      if r.close then{s1 with net:=s1.net.close c.id}.drop c.id else s1
    |_=>s
def Srv.step (s:Srv):kT→Srv
  | .accept=>s.accept
  | .read j=>s.read j
  | .work i=>s.work i
  | .write j=>s.write j
def mJ (s:Srv):List aI→Srv
  |[]=>s
  |c::l=>
    let quiet:=c.buf.slots.isEmpty&&c.pending.isNone&&!c.cut.done&&!s.net.ready c.id
    if(quiet=true∧s.conf.idle≤s.now-c.iO)∨(s.mode=1∧s.dead≤s.now)then mJ ({s with net:=s.net.close c.id}.drop c.id) l
    else mJ s l
def Srv.tick (s:Srv):Srv:=(mJ {s with now:=s.now+1} s.ah).settle
def Srv.fU (s:Srv) (a:jo):Srv×Int:=
  if a.kind=0 then({s with net:=s.net.dial},0)
  else if a.kind=1 then let r:=s.net.send a.conn a.data;({s with net:=r.1},if r.2 then 0 else 8)
  else if a.kind=2 then let r:=s.net.shut a.conn;({s with net:=r.1},if r.2 then 0 else 8)
  else if a.kind=3 then
    let r:=s.net.reset a.conn
    if r.2 then({s with net:=r.1}.drop a.conn,0)else({s with net:=r.1},8)
  else if a.kind=4 then(s.tick,0)
  else if a.kind=5 then match s.able with
    |[]=>(s,7)
    |k::l=>((s.step ((k::l).getD (a.n%((k::l).length:Int)).toNat k)).settle,0)
  else(s,8)
def Srv.run (s:Srv):List jo→Srv×Int
  |[]=>(s,0)
  |a::l=>let d:=s.fU a;let r:=d.1.run l;(r.1,(if d.2=0 then 1 else 0)+r.2)
end Cr
end Go.Proofs.YthcbjeeajoliiaaGreatDoor
