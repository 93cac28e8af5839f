/- Texts of the walk, joined. -/
import Derived.Test.YtcjflgmcjfcodaaGreatM02
import Derived.Test.YtcjflgmcjfcodaaGreatM03
set_option maxRecDepth 100000
set_option maxHeartbeats 8000000
namespace Go.Proofs.Tryz end Go.Proofs.Tryz
namespace Go.Proofs.YtcjflgmcjfcodaaGreat
open Go.Proofs.Tryz
section
namespace Pip
open Json (Part Wr)
structure Num where
 neg:Bool
 minus:Bool
 digits:Bool
 zero:Bool
 v:Nat
 top:Bool
 over:Bool
 e:Nat
def Num.new:Num:=⟨false,false,false,false,0,false,false,0⟩
def isDigit (b:UInt8):Bool:=decide (48 <= b.toNat) && decide (b.toNat <= 57)
def Num.add (n:Num) (d:Nat):Num :=
 if n.top=true \/ n.over=true then ⟨n.neg,n.minus,n.digits,n.zero,n.v,n.top,true,n.e⟩
 else ⟨n.neg,n.minus,n.digits,n.zero,(n.v * 10 + d) % 18446744073709551616,(n.v * 10 + d) / 18446744073709551616 == 1,decide (1 < (n.v * 10 + d) / 18446744073709551616),n.e⟩
def Num.step (n:Num) (b:UInt8):Num × Bool × Nat :=
 if n.e ≠ 0 then (n,false,n.e)
 else if isDigit b=true /\ n.zero=false then (⟨n.neg,n.minus,true,!n.digits && b == 48,(n.add (b.toNat - 48)).v,(n.add (b.toNat - 48)).top,(n.add (b.toNat - 48)).over,n.e⟩,true,0)
 else if b=45 /\ n.minus=false /\ n.digits=false then (⟨true,true,n.digits,n.zero,n.v,n.top,n.over,n.e⟩,true,0)
 else if n.digits=true /\ (b=46 \/ b=101 \/ b=69) then (⟨n.neg,n.minus,n.digits,n.zero,n.v,n.top,n.over,6⟩,false,6)
 else if n.digits=false \/ isDigit b=true then (⟨n.neg,n.minus,n.digits,n.zero,n.v,n.top,n.over,2⟩,false,2)
 else (n,false,0)
def Num.fin (n:Num):Bool × Nat × Nat :=
 if n.e ≠ 0 then (false,0,n.e)
 else if n.digits=false then (false,0,2)
 else if n.over=true \/ (n.top=true /\ (n.neg=false \/ 0 < n.v)) then (false,0,7)
 else if n.neg=true /\ (0 < n.v \/ n.top=true) then (true,(n.v + 18446744073709551615) % 18446744073709551616,0)
 else (false,n.v,0)
structure Num.Fits (n:Num):Prop where
 v:n.v < 18446744073709551616
 e:n.e < 256
theorem Num.Fits.new:Num.new.Fits:=⟨by decide,by decide⟩
theorem Num.Fits.add {n:Num} (h:n.Fits) (d:Nat):(n.add d).v < 18446744073709551616:=by
 unfold Num.add;split
 ·exact h.v
 ·exact Nat.mod_lt _ (by decide)
theorem Num.Fits.step {n:Num} (h:n.Fits) (b:UInt8):(n.step b).1.Fits /\ (n.step b).2.2 < 256:=by
 unfold Num.step
 repeat' split
 ·exact ⟨h,h.e⟩
 ·exact ⟨⟨h.add _,h.e⟩,nlb rfl⟩
 ·exact ⟨⟨h.v,h.e⟩,nlb rfl⟩
 ·exact ⟨⟨h.v,nlb rfl⟩,nlb rfl⟩
 ·exact ⟨⟨h.v,nlb rfl⟩,nlb rfl⟩
 ·exact ⟨h,nlb rfl⟩
theorem Num.Fits.fin {n:Num} (h:n.Fits):n.fin.2.1 < 18446744073709551616 /\ n.fin.2.2 < 256:=by
 unfold Num.fin
 repeat' split
 ·exact ⟨by show 0 < 18446744073709551616;decide,h.e⟩
 ·exact ⟨by show 0 < 18446744073709551616;decide,by show 2 < 256;decide⟩
 ·exact ⟨by show 0 < 18446744073709551616;decide,by show 7 < 256;decide⟩
 ·exact ⟨Nat.mod_lt _ (by decide),by show 0 < 256;decide⟩
 ·exact ⟨h.v,by show 0 < 256;decide⟩
structure Tok where
 kind:UInt8
 text:List UInt8
 neg:Bool
 mag:Nat
structure Lex where
 state:Nat
 r:Esc.Rdr
 s:List UInt8
 n:Num
 rest:List UInt8
 kind:UInt8
 e:Nat
def Lex.new:Lex:=⟨0,Esc.Rdr.zero,[],Num.new,[],0,0⟩
def iJ (b:UInt8):Bool:=b == 32 || b == 9 || b == 10 || b == 13
def lC (b:UInt8):Bool:=b == 123 || b == 125 || b == 91 || b == 93 || b == 58 || b == 44
def Lex.aK (l:Lex) (b:UInt8):Lex × List Tok :=
 if iJ b=true then (l,[])
 else if lC b=true then (l,[⟨b,[],false,0⟩])
 else if b=34 then (⟨1,Esc.Rdr.zero,[],l.n,l.rest,l.kind,l.e⟩,[])
 else if b=45 \/ isDigit b=true then (⟨2,l.r,l.s,(Num.new.step b).1,l.rest,l.kind,(Num.new.step b).2.2⟩,[])
 else if b=116 then (⟨3,l.r,l.s,l.n,[114,117,101],116,l.e⟩,[])
 else if b=102 then (⟨3,l.r,l.s,l.n,[97,108,115,101],102,l.e⟩,[])
 else if b=110 then (⟨3,l.r,l.s,l.n,[117,108,108],48,l.e⟩,[])
 else (⟨l.state,l.r,l.s,l.n,l.rest,l.kind,2⟩,[])
def Lex.text (l:Lex) (b:UInt8):Lex × List Tok :=
 if b=34 /\ l.r.whole=true then (⟨0,l.r,l.s,l.n,l.rest,l.kind,l.e⟩,[⟨115,l.s,false,0⟩])
 else (⟨l.state, (l.r.step b).1, l.s ++ (l.r.step b).2.1, l.n, l.rest, l.kind,
   if (l.r.step b).2.2=0 /\ 200 < (l.s ++ (l.r.step b).2.1).length then 5 else (l.r.step b).2.2⟩,[])
def Lex.word (l:Lex) (b:UInt8):Lex × List Tok :=
 match l.rest with
 | []=>(⟨l.state,l.r,l.s,l.n,l.rest,l.kind,2⟩,[])
 | c :: r =>
  if c ≠ b then (⟨l.state,l.r,l.s,l.n,l.rest,l.kind,2⟩,[])
  else if r=[] then (⟨0,l.r,l.s,l.n,r,l.kind,l.e⟩,[⟨l.kind,[],false,0⟩])
  else (⟨l.state,l.r,l.s,l.n,r,l.kind,l.e⟩,[])
def Lex.ended (l:Lex):Lex × List Tok :=
 if l.n.fin.2.2 ≠ 0 then (⟨l.state,l.r,l.s,l.n,l.rest,l.kind,l.n.fin.2.2⟩,[])
 else (⟨0,l.r,l.s,l.n,l.rest,l.kind,0⟩,[⟨110,[],l.n.fin.1,l.n.fin.2.1⟩])
def Lex.number (l:Lex) (b:UInt8):Lex × List Tok :=
 if (l.n.step b).2.1=true \/ (l.n.step b).2.2 ≠ 0 then (⟨l.state,l.r,l.s,(l.n.step b).1,l.rest,l.kind,(l.n.step b).2.2⟩,[])
 else
  let m:Lex:=⟨l.state,l.r,l.s,(l.n.step b).1,l.rest,l.kind,0⟩
  if m.ended.1.e ≠ 0 then (m.ended.1,[])
  else ((m.ended.1.aK b).1,m.ended.2 ++ (m.ended.1.aK b).2)
def Lex.act (l:Lex) (b:UInt8):Lex × List Tok :=
 if l.state=1 then l.text b else if l.state=3 then l.word b else if l.state=2 then l.number b else l.aK b
def Lex.step (l:Lex) (b:UInt8):Lex × List Tok × Nat :=
 if l.e ≠ 0 then (l,[],l.e)
 else if (l.act b).1.e ≠ 0 then ((l.act b).1,[],(l.act b).1.e)
 else ((l.act b).1,(l.act b).2,0)
def Lex.fin (l:Lex):Lex × List Tok × Nat :=
 if l.e ≠ 0 \/ l.state=0 then (l,[],l.e)
 else if l.state=2 then (l.ended.1,l.ended.2,l.ended.1.e)
 else (⟨l.state,l.r,l.s,l.n,l.rest,l.kind,3⟩,[],3)
def Lex.held (l:Lex):Nat:=if l.e ≠ 0 \/ l.state ≠ 1 then 0 else l.s.length
def rests:List (List UInt8):=[[],[114,117,101],[117,101],[101],[97,108,115,101],[108,115,101],[115,101],[117,108,108],[108,108],[108]]
structure Lex.Fits (l:Lex):Prop where
 state:l.state <= 3
 r:l.r.Fits
 n:l.n.Fits
 rest:l.rest ∈ rests
 s:l.s.length <= 300
 small:l.e=0 -> l.s.length <= 200
 e:l.e < 256
theorem Esc_zero_fits:Esc.Rdr.zero.Fits:=⟨by decide,by decide,by decide,by decide,by decide,by decide,by decide⟩
theorem Lex.Fits.new:Lex.new.Fits:=⟨by decide,Esc_zero_fits,Num.Fits.new,by decide,by decide,fun _=>by decide,by decide⟩
structure Jin where
 l:Lex
 depth:Nat
 maps:List Bool
 next:Nat
 e:Nat
def Jin.new (d:Nat):Jin:=⟨Lex.new,d,[],0,0⟩
def behind (maps:List Bool):Nat:=if maps.length=0 then 6 else 5
def Jin.value (p:Jin) (t:Tok):Jin × Option Part :=
 if t.kind=91 \/ t.kind=123 then
  if p.maps.length=p.depth then (⟨p.l,p.depth,p.maps,p.next,4⟩,none)
  else (⟨p.l,p.depth,p.maps ++ [t.kind == 123],if t.kind=123 then 2 else 1,p.e⟩,some (.aG (t.kind == 123) (-1)))
 else if t.kind=115 then (⟨p.l,p.depth,p.maps,behind p.maps,p.e⟩,some (.word ⟨t.text.toArray⟩))
 else if t.kind=110 then (⟨p.l,p.depth,p.maps,behind p.maps,p.e⟩,some (.whole t.neg t.mag))
 else if t.kind=116 \/ t.kind=102 then (⟨p.l,p.depth,p.maps,behind p.maps,p.e⟩,some (.bool (t.kind == 116)))
 else if t.kind=48 then (⟨p.l,p.depth,p.maps,behind p.maps,p.e⟩,some .null)
 else (⟨p.l,p.depth,p.maps,p.next,2⟩,none)
def Jin.token (p:Jin) (t:Tok):Jin × Option Part :=
 if t.kind=58 /\ p.next=4 then (⟨p.l,p.depth,p.maps,0,p.e⟩,none)
 else if t.kind=44 /\ p.next=5 then (⟨p.l,p.depth,p.maps,if p.maps.getLast? = some true then 3 else 0,p.e⟩,none)
 else if (t.kind=93 /\ p.maps.getLast? = some false /\ (p.next=1 \/ p.next=5)) \/ (t.kind=125 /\ p.maps.getLast? = some true /\ (p.next=2 \/ p.next=5)) then
  (⟨p.l,p.depth,p.maps.dropLast,behind p.maps.dropLast,p.e⟩,some .close)
 else if t.kind=115 /\ (p.next=3 \/ p.next=2) then (⟨p.l,p.depth,p.maps,4,p.e⟩,some (.word ⟨t.text.toArray⟩))
 else if p.next ≠ 0 /\ p.next ≠ 1 then (⟨p.l,p.depth,p.maps,p.next,2⟩,none)
 else p.value t
def Jin.parts:Jin -> List Tok -> Nat -> Jin × List Part × Nat
 | p,[],e=>(⟨p.l,p.depth,p.maps,p.next,e⟩,[],e)
 | p,t :: l,e =>
  if (p.token t).1.e ≠ 0 then ((p.token t).1,[],(p.token t).1.e)
  else (((p.token t).1.parts l e).1,(p.token t).2.toList ++ ((p.token t).1.parts l e).2.1,((p.token t).1.parts l e).2.2)
def Jin.on (p:Jin) (l:Lex):Jin:=⟨l,p.depth,p.maps,p.next,p.e⟩
def Jin.step (p:Jin) (b:UInt8):Jin × List Part × Nat :=
 if p.e ≠ 0 then (p,[],p.e) else (p.on (p.l.step b).1).parts (p.l.step b).2.1 (p.l.step b).2.2
def Jin.fin (p:Jin):Jin × List Part × Nat :=
 if p.e ≠ 0 then (p,[],p.e)
 else
  let o:=(p.on p.l.fin.1).parts p.l.fin.2.1 p.l.fin.2.2
  if o.2.2=0 /\ o.1.next ≠ 6 then (⟨o.1.l,o.1.depth,o.1.maps,o.1.next,3⟩,o.2.1,3) else (o.1,o.2.1,o.1.e)
def Jin.held (p:Jin):Nat:=if p.e ≠ 0 then 0 else p.l.held + p.maps.length
structure Hd where
 begun:Bool
 fin:Bool
 opened:Bool
 major:Nat
 lack:Nat
 v:Nat
 e:Nat
def Hd.new:Hd:=⟨false,false,false,0,0,0,0⟩
def Hd.step (h:Hd) (b:UInt8):Hd × Bool × Nat :=
 if h.e ≠ 0 then (h,false,h.e)
 else if h.fin=true then (⟨h.begun,h.fin,h.opened,h.major,h.lack,h.v,14⟩,false,14)
 else if h.begun=true then (⟨h.begun,decide (h.lack=1),h.opened,h.major,h.lack - 1,(h.v * 256 + b.toNat) % 18446744073709551616,h.e⟩,decide (h.lack=1),0)
 else if b.toNat % 32 < 24 then (⟨true,true,h.opened,b.toNat / 32,h.lack,b.toNat % 32,h.e⟩,true,0)
 else if b.toNat % 32 < 28 then (⟨true,h.fin,h.opened,b.toNat / 32,2 ^ (b.toNat % 32 - 24),h.v,h.e⟩,h.fin,0)
 else if b.toNat % 32=31 then (⟨true,true,true,b.toNat / 32,h.lack,h.v,h.e⟩,true,0)
 else (⟨true,h.fin,h.opened,b.toNat / 32,h.lack,h.v,2⟩,h.fin,2)
def big (v n:Nat):List UInt8:=(List.range n).map fun i=>UInt8.ofNat (v / 256 ^ (n - 1 - i))
def put (major v:Nat):List UInt8 :=
 if v < 24 then big (major % 8 * 32 + v) 1
 else if v < 256 then big (major % 8 * 32 + 24) 1 ++ big v 1
 else if v < 65536 then big (major % 8 * 32 + 25) 1 ++ big v 2
 else if v < 4294967296 then big (major % 8 * 32 + 26) 1 ++ big v 4
 else big (major % 8 * 32 + 27) 1 ++ big v 8
structure Crt where
 pairs:Bool
 count:Int
 parts:Nat
def Crt.aK (c:Crt):Bool:=c.pairs && decide (c.parts % 2=1)
def Crt.full (c:Crt):Bool:=if c.pairs then !c.aK && ((c.parts / 2:Nat):Int) == c.count else (c.parts:Int) == c.count
structure Cw where
 opened:List Crt
 done:Bool
def Cw.new:Cw:=⟨[],false⟩
def bytesOf (s:ByteArray):List UInt8:=s.data.toList
def cborPlain:Part -> List UInt8
 | .bool true=>[245]
 | .bool false=>[244]
 | .whole true m=>put 1 m
 | .whole false m=>put 0 m
 | .word s=>put 3 s.size ++ bytesOf s
 | .cW s=>put 2 s.size ++ bytesOf s
 | _=>[246]
def Cw.cD (w:Cw):List UInt8 × Nat × Cw :=
 match w.opened.getLast? with
 | none=>([],14,w)
 | some c =>
  if c.aK=true \/ (0 <= c.count /\ c.full=false) then ([],14,w)
  else (if c.count < 0 then [255] else [],0,⟨w.opened.dropLast,decide (w.opened.length=1)⟩)
def Cw.aR (w:Cw):List Crt :=
 match w.opened.getLast? with
 | none=>[]
 | some c=>w.opened.dropLast ++ [⟨c.pairs,c.count,c.parts + 1⟩]
def Cw.aIo (w:Cw) (p:Part):List UInt8 × Nat × Cw :=
 match p with
 | .aG m c=>(if c < 0 then [if m then 191 else 159] else put (if m then 5 else 4) c.toNat,0,⟨w.aR ++ [⟨m,c,0⟩],false⟩)
 | p=>(cborPlain p,0,⟨w.aR,decide (w.opened=[])⟩)
def Cw.may (w:Cw) (p:Part):Nat :=
 match w.opened.getLast? with
 | none=>0
 | some c=>if c.full=true then 14 else if c.pairs=true /\ c.aK=false /\ p.isWord=false then 8 else 0
def Cw.bB (w:Cw) (p:Part):List UInt8 × Nat × Cw :=
 if p.may=false \/ w.done=true then ([],14,w)
 else match p with
  | .close=>w.cD
  | p=>if w.may p ≠ 0 then ([],w.may p,w) else w.aIo p
end Pip
end
section
namespace Pip
open Json (Part Wr)
structure Core where
 depth:Nat
 opened:List Crt
 done:Bool
 e:Nat
 word:Bool
 chunks:Bool
 lack:Nat
 s:List UInt8
 c:Esc.Chk
def Chk_zero:Esc.Chk:=⟨0,0,0,false⟩
def Core.new (d:Nat):Core:=⟨d,[],false,0,false,false,0,[],Chk_zero⟩
def Core.fail (c:Core) (e:Nat):Core × List Part:=(⟨c.depth,c.opened,c.done,e,c.word,c.chunks,c.lack,c.s,c.c⟩,[])
def Core.atKey (c:Core):Bool :=
 match c.opened.getLast? with
 | none=>false
 | some t=>t.pairs && decide (t.parts % 2=0)
def Core.full (c:Core):Bool:=decide (c.depth <= c.opened.length)
def Crt.fits (c:Crt):Bool:=if c.pairs then decide (c.parts % 2=0) && ((c.parts / 2:Nat):Int) == c.count else (c.parts:Int) == c.count
def up:List Crt -> List Crt × Nat
 | []=>([],0)
 | c :: r=>if (Crt.mk c.pairs c.count (c.parts + 1)).fits=true then ((up r).1,(up r).2 + 1) else (⟨c.pairs,c.count,c.parts + 1⟩ :: r,0)
def Core.value (c:Core) (v:Part):Core × List Part :=
 (⟨c.depth,(up c.opened.reverse).1.reverse,c.done || (up c.opened.reverse).1.isEmpty,c.e,c.word,c.chunks,c.lack,c.s,c.c⟩,v :: List.replicate (up c.opened.reverse).2 Part.close)
def Core.begin (c:Core) (pairs:Bool) (count:Int):Core × List Part :=
 if count=0 then ((c.value .close).1,.aG pairs 0 :: (c.value .close).2)
 else (⟨c.depth,c.opened ++ [⟨pairs,count,0⟩],c.done,c.e,c.word,c.chunks,c.lack,c.s,c.c⟩,[.aG pairs count])
def Core.break (c:Core):Core × List Part :=
 match c.opened.getLast? with
 | none=>c.fail 2
 | some t =>
  if 0 <= t.count \/ (t.pairs=true /\ t.parts % 2=1) then c.fail 2
  else (Core.mk c.depth c.opened.dropLast c.done c.e c.word c.chunks c.lack c.s c.c).value .close
def Core.text (c:Core):Core × List Part :=
 (Core.mk c.depth c.opened c.done c.e c.word false c.lack [] c.c).value (if c.word then .word ⟨c.s.toArray⟩ else .cW ⟨c.s.toArray⟩)
def Core.length (c:Core) (word:Bool) (n:Nat):Core × List Part :=
 if 200 - c.s.length < n then c.fail 5
 else
  let d:Core:=⟨c.depth,c.opened,c.done,c.e,word,c.chunks,n,c.s,Chk_zero⟩
  if 0 < n \/ c.chunks=true then (d,[]) else d.text
def Core.chk (c:Core) (b:UInt8):Esc.Chk:=if c.word then (c.c.step b).1 else c.c
def Core.fed (c:Core) (b:UInt8):Core:=⟨c.depth,c.opened,c.done,c.e,c.word,c.chunks,c.lack - 1,c.s ++ [b],c.chk b⟩
def Core.byte (c:Core) (b:UInt8):Core × List Part :=
 if c.word=true /\ ((c.c.step b).2=false \/ (c.lack=1 /\ (c.chk b).whole=false)) then (c.fed b).fail 9
 else if 1 < c.lack \/ c.chunks=true then (c.fed b,[]) else (c.fed b).text
def Core.over (c:Core):Nat:=if c.e=0 /\ c.done=false then 3 else c.e
def Core.held (c:Core):Nat:=if c.e ≠ 0 then 0 else c.s.length + c.opened.length
structure Cin where
 c:Core
 h:Hd
 begun:Bool
def Cin.new (d:Nat):Cin:=⟨Core.new d,Hd.new,false⟩
def Cin.on (p:Cin) (o:Core × List Part):Cin × List Part:=(⟨o.1,p.h,p.begun⟩,o.2)
def Cin.behind (p:Cin) (major v:Nat) (without:Bool):Cin × List Part :=
 if major=0 \/ major=1 then p.on (p.c.value (.whole (decide (major=1)) v))
 else if major=2 \/ major=3 then
  if without=true then (⟨⟨p.c.depth,p.c.opened,p.c.done,p.c.e,decide (major=3),true,p.c.lack,p.c.s,p.c.c⟩,p.h,p.begun⟩,[])
  else p.on (p.c.length (decide (major=3)) v)
 else if without=true then p.on (p.c.begin (decide (major=5)) (-1))
 else if 1000000 < v then p.on (p.c.fail 7)
 else p.on (p.c.begin (decide (major=5)) v)
def Cin.head (p:Cin) (b:UInt8):Cin × List Part :=
 let o:=p.h.step b
 let q:Cin:=⟨p.c,o.1,!o.2.1⟩
 if o.2.2 ≠ 0 then q.on (q.c.fail o.2.2)
 else if o.2.1=false then (q,[])
 else (Cin.mk p.c Hd.new false).behind o.1.major o.1.v o.1.opened
def Cin.simple (p:Cin) (low:Nat):Cin × List Part :=
 if low=20 \/ low=21 then p.on (p.c.value (.bool (decide (low=21))))
 else if low=22 then p.on (p.c.value .null)
 else if low=25 \/ low=26 \/ low=27 then p.on (p.c.fail 6)
 else p.on (p.c.fail 8)
def Cin.chunk (p:Cin) (b:UInt8):Cin × List Part :=
 if b=255 then p.on p.c.text
 else if b.toNat / 32 ≠ (if p.c.word then 3 else 2) \/ b.toNat % 32=31 then p.on (p.c.fail 2)
 else p.head b
def Cin.item (p:Cin) (b:UInt8):Cin × List Part :=
 let major:=b.toNat / 32
 let low:=b.toNat % 32
 if p.c.done=true then p.on (p.c.fail 2)
 else if (28 <= low /\ low < 31) \/ (low=31 /\ (major <= 1 \/ major=6)) then p.on (p.c.fail 2)
 else if b=255 then p.on p.c.break
 else if (p.c.atKey=true /\ major ≠ 3) \/ major=6 then p.on (p.c.fail 8)
 else if major=7 then p.simple low
 else if (major=4 \/ major=5) /\ p.c.full=true then p.on (p.c.fail 4)
 else p.head b
def Cin.act (p:Cin) (b:UInt8):Cin × List Part :=
 if 0 < p.c.lack then p.on (p.c.byte b)
 else if p.begun=true then p.head b
 else if p.c.chunks=true then p.chunk b
 else p.item b
def Cin.step (p:Cin) (b:UInt8):Cin × List Part × Nat :=
 if p.c.e ≠ 0 then (p,[],p.c.e) else ((p.act b).1,(p.act b).2,(p.act b).1.c.e)
structure Pin where
 c:Core
 kind:Nat
 lack:Nat
 all:Nat
 v:Nat
def Pin.new (d:Nat):Pin:=⟨Core.new d,0,0,0,0⟩
def Pin.on (p:Pin) (o:Core × List Part):Pin × List Part:=(⟨o.1,p.kind,p.lack,p.all,p.v⟩,o.2)
def Pin.count (p:Pin) (pairs:Bool) (n:Nat):Pin × List Part :=
 if 1000000 < n then p.on (p.c.fail 7) else p.on (p.c.begin pairs n)
def signed (v all:Nat):Bool × Nat :=
 if v < 2 ^ (8 * all - 1) then (false,v) else (true,2 ^ (8 * all) - 1 - v)
def Pin.behind (p:Pin) (kind v:Nat):Pin × List Part :=
 if kind=1 then p.on (p.c.value (.whole false v))
 else if kind=2 then p.on (p.c.value (.whole (signed v p.all).1 (signed v p.all).2))
 else if kind=3 \/ kind=4 then p.on (p.c.length (decide (kind=4)) v)
 else p.count (decide (kind=6)) v
def Pin.number (p:Pin) (b:UInt8):Pin × List Part :=
 let v:=(p.v * 256 + b.toNat) % 18446744073709551616
 if 1 < p.lack then (⟨p.c,p.kind,p.lack - 1,p.all,v⟩,[])
 else (Pin.mk p.c 0 (p.lack - 1) p.all v).behind p.kind v
def Pin.follows (p:Pin) (kind n:Nat):Pin × List Part:=(⟨p.c,kind,n,n,0⟩,[])
def cX (b:UInt8):Bool:=decide (b.toNat / 32=5) || (decide (217 <= b.toNat) && decide (b.toNat <= 219))
def cP (b:UInt8):Bool:=(decide (128 <= b.toNat) && decide (b.toNat <= 159)) || (decide (220 <= b.toNat) && decide (b.toNat <= 223))
def Pin.long (p:Pin) (b:UInt8):Pin × List Part :=
 if b.toNat <= 198 then p.follows 3 (2 ^ (b.toNat - 196))
 else if b.toNat <= 207 then p.follows 1 (2 ^ (b.toNat - 204))
 else if b.toNat <= 211 then p.follows 2 (2 ^ (b.toNat - 208))
 else if b.toNat <= 219 then p.follows 4 (2 ^ (b.toNat - 217))
 else if b.toNat <= 221 then p.follows 5 (2 * 2 ^ (b.toNat - 220))
 else p.follows 6 (2 * 2 ^ (b.toNat - 222))
def Pin.item (p:Pin) (b:UInt8):Pin × List Part :=
 let n:=b.toNat
 if p.c.done=true \/ n=193 then p.on (p.c.fail 2)
 else if p.c.atKey=true /\ cX b=false then p.on (p.c.fail 8)
 else if (199 <= n /\ n <= 201) \/ (212 <= n /\ n <= 216) then p.on (p.c.fail 8)
 else if n=202 \/ n=203 then p.on (p.c.fail 6)
 else if cP b=true /\ p.c.full=true then p.on (p.c.fail 4)
 else if n < 128 then p.on (p.c.value (.whole false n))
 else if 224 <= n then p.on (p.c.value (.whole true (255 - n)))
 else if n < 160 then p.count (decide (n < 144)) (n % 16)
 else if n < 192 then p.on (p.c.length true (n % 32))
 else if n=192 then p.on (p.c.value .null)
 else if n <= 195 then p.on (p.c.value (.bool (decide (n=195))))
 else p.long b
def Pin.act (p:Pin) (b:UInt8):Pin × List Part :=
 if 0 < p.c.lack then p.on (p.c.byte b) else if p.kind ≠ 0 then p.number b else p.item b
def Pin.step (p:Pin) (b:UInt8):Pin × List Part × Nat :=
 if p.c.e ≠ 0 then (p,[],p.c.e) else ((p.act b).1,(p.act b).2,(p.act b).1.c.e)
def sized (first v:Nat):List Nat -> Nat -> List UInt8
 | [],_=>[]
 | n :: l,i=>if n=8 \/ v < 2 ^ (8 * n) then big (first + i) 1 ++ big v n else sized first v l (i + 1)
def bX (m:Nat):List UInt8 × Nat :=
 if 9223372036854775807 < m then ([],7)
 else if m < 32 then (big (18446744073709551615 - m) 1,0)
 else if m < 128 then (big 208 1 ++ big (18446744073709551615 - m) 1,0)
 else if m < 32768 then (big 209 1 ++ big (18446744073709551615 - m) 2,0)
 else if m < 2147483648 then (big 210 1 ++ big (18446744073709551615 - m) 4,0)
 else (211 :: big (18446744073709551615 - m) 8,0)
def bS (map:Bool) (c:Int):List UInt8 × Nat :=
 if c < 0 \/ 4294967295 < c then ([],7)
 else if c < 16 then (big ((if map then 128 else 144) + c.toNat) 1,0)
 else (sized (if map then 222 else 220) c.toNat [2,4] 0,0)
def packPlain:Part -> List UInt8 × Nat
 | .bool true=>([195],0)
 | .bool false=>([194],0)
 | .whole true m=>bX m
 | .whole false m=>if m < 128 then (big m 1,0) else (sized 204 m [1,2,4,8] 0,0)
 | .word s=>if s.size < 32 then (big (160 + s.size) 1 ++ bytesOf s,0) else (sized 217 s.size [1,2,4] 0 ++ bytesOf s,0)
 | .cW s=>(sized 196 s.size [1,2,4] 0 ++ bytesOf s,0)
 | _=>([192],0)
def Cw.dF (w:Cw):List UInt8 × Nat × Cw :=
 match w.opened.getLast? with
 | none=>([],14,w)
 | some c=>if c.full=false then ([],14,w) else ([],0,⟨w.opened.dropLast,decide (w.opened.length=1)⟩)
def Cw.rQ (w:Cw) (p:Part):List UInt8 × Nat × Cw :=
 match p with
 | .aG m c=>if (bS m c).2 ≠ 0 then ([],(bS m c).2,w) else ((bS m c).1,0,⟨w.aR ++ [⟨m,c,0⟩],false⟩)
 | p=>if (packPlain p).2 ≠ 0 then ([],(packPlain p).2,w) else ((packPlain p).1,0,⟨w.aR,decide (w.opened=[])⟩)
def Cw.pack (w:Cw) (p:Part):List UInt8 × Nat × Cw :=
 if p.may=false \/ w.done=true then ([],14,w)
 else match p with
  | .close=>w.dF
  | p=>if w.may p ≠ 0 then ([],w.may p,w) else w.rQ p
structure jM where
 place:Nat
 parts:Nat
structure Stg where
 limit:Nat
 held:List Part
 size:Nat
 opened:List jM
 e:Nat
def Stg.new (n:Nat):Stg:=⟨n,[],0,[],0⟩
def sizeOf:Part -> Nat
 | .word s=>1 + s.size
 | .cW s=>1 + s.size
 | _=>1
def Stg.hold (s:Stg) (v:Part):Stg × Nat :=
 if s.limit < s.size + sizeOf v then (⟨0,[],0,[],10⟩,10) else (⟨s.limit,s.held ++ [v],s.size + sizeOf v,s.opened,s.e⟩,s.e)
def aT (held:List Part) (c:jM):List Part :=
 match held[c.place]? with
 | some (.aG m n)=>if n < 0 then held.set c.place (.aG m ((if m then c.parts / 2 else c.parts:Nat):Int)) else held
 | _=>held
def Stg.close (s:Stg):Stg × List Part × Nat :=
 match s.opened.getLast? with
 | none=>(s,[],0)
 | some c =>
  let d:Stg:=⟨s.limit,aT s.held c,s.size,s.opened.dropLast,s.e⟩
  if 1 < s.opened.length then ((d.hold .close).1,[],(d.hold .close).2)
  else (⟨s.limit,[],0,s.opened.dropLast,s.e⟩,aT s.held c ++ [.close],0)
def Stg.aR (s:Stg):List jM :=
 match s.opened.getLast? with
 | none=>[]
 | some c=>s.opened.dropLast ++ [⟨c.place,c.parts + 1⟩]
def Part_opens:Part -> Bool
 | .aG _ c=>decide (c < 0)
 | _=>false
def Part_begins:Part -> Bool
 | .aG _ _=>true
 | _=>false
def Part_closes:Part -> Bool
 | .close=>true
 | _=>false
def Stg.step (s:Stg) (v:Part):Stg × List Part × Nat :=
 if s.e ≠ 0 then (s,[],s.e)
 else if v.may=false then (s,[],14)
 else if s.opened=[] /\ Part_opens v=false then (s,[v],0)
 else if Part_closes v=true then s.close
 else
  let d:Stg:=⟨s.limit,s.held,s.size,s.aR ++ (if Part_begins v then [⟨s.held.length,0⟩] else []),s.e⟩
  ((d.hold v).1,[],(d.hold v).2)
structure Setup where
 from_:Int
 to:Int
 depth:Int
 stage:Int
 limit:Int
def right (s:Setup):Bool :=
 decide (1 <= s.from_) && decide (s.from_ <= 3) && decide (1 <= s.to) && decide (s.to <= 3) && decide (1 <= s.depth) && decide (s.depth <= 16) && decide (0 <= s.stage) && decide (s.stage <= 2000) &&
  decide (0 <= s.limit) && decide (s.limit <= 255)
inductive Reader where
 | json (p:Jin)
 | bB (p:Cin)
 | pack (p:Pin)
inductive Writer where
 | json (w:Wr)
 | bB (w:Cw)
 | pack (w:Cw)
def Reader.new (f:Int) (d:Nat):Reader:=if f=1 then .json (Jin.new d) else if f=2 then .bB (Cin.new d) else .pack (Pin.new d)
def Writer.new (f:Int):Writer:=if f=1 then .json Wr.zero else if f=2 then .bB Cw.new else .pack Cw.new
def Reader.step:Reader -> UInt8 -> Reader × List Part × Nat
 | .json p,b=>(.json (p.step b).1,(p.step b).2)
 | .bB p,b=>(.bB (p.step b).1,(p.step b).2)
 | .pack p,b=>(.pack (p.step b).1,(p.step b).2)
def Reader.fin:Reader -> Reader × List Part × Nat
 | .json p=>(.json p.fin.1,p.fin.2)
 | .bB p=>(.bB p,[],p.c.over)
 | .pack p=>(.pack p,[],p.c.over)
def Reader.held:Reader -> Nat
 | .json p=>p.held
 | .bB p=>p.c.held
 | .pack p=>p.c.held
def Writer.step (text:Part -> List UInt8):Writer -> Part -> List UInt8 × Nat × Writer
 | .json w,p=>((w.step text p).1,(w.step text p).2.1,.json (w.step text p).2.2)
 | .bB w,p=>((w.bB p).1,(w.bB p).2.1,.bB (w.bB p).2.2)
 | .pack w,p=>((w.pack p).1,(w.pack p).2.1,.pack (w.pack p).2.2)
structure Pp where
 input:Reader
 output:Writer
 hold:Option Stg
 over:Bool
 e:Nat
def Pp.new (s:Setup):Pp:=⟨Reader.new s.from_ s.depth.toNat,Writer.new s.to,if s.to=3 then some (Stg.new s.stage.toNat) else none,false,0⟩
def Writer.some (text:Part -> List UInt8):Writer -> List Part -> List UInt8 × Nat × Writer
 | w,[]=>([],0,w)
 | w,p :: l =>
  if (w.step text p).2.1 ≠ 0 then ((w.step text p).1,(w.step text p).2.1,(w.step text p).2.2)
  else ((w.step text p).1 ++ ((w.step text p).2.2.some text l).1,((w.step text p).2.2.some text l).2)
def Pp.one (text:Part -> List UInt8) (p:Pp) (v:Part):Pp × List UInt8 :=
 match p.hold with
 | none=>(⟨p.input,(p.output.some text [v]).2.2,none,p.over,(p.output.some text [v]).2.1⟩,(p.output.some text [v]).1)
 | some s =>
  if (s.step v).2.2 ≠ 0 then (⟨p.input,p.output,some (s.step v).1,p.over,(s.step v).2.2⟩,[])
  else (⟨p.input,(p.output.some text (s.step v).2.1).2.2,some (s.step v).1,p.over,(p.output.some text (s.step v).2.1).2.1⟩,(p.output.some text (s.step v).2.1).1)
def Pp.write (text:Part -> List UInt8):Pp -> List Part -> Nat -> Pp × List UInt8 × Nat
 | p,[],e=>(⟨p.input,p.output,p.hold,p.over,e⟩,[],e)
 | p,v :: l,e =>
  if (p.one text v).1.e ≠ 0 then ((p.one text v).1,(p.one text v).2,(p.one text v).1.e)
  else (((p.one text v).1.write text l e).1,(p.one text v).2 ++ ((p.one text v).1.write text l e).2.1,((p.one text v).1.write text l e).2.2)
def Pp.may (p:Pp):Nat:=if p.e ≠ 0 then p.e else if p.over=true then 14 else 0
def Pp.step (text:Part -> List UInt8) (p:Pp) (b:UInt8):Pp × List UInt8 × Nat :=
 if p.may ≠ 0 then (p,[],p.may)
 else (Pp.mk (p.input.step b).1 p.output p.hold p.over p.e).write text (p.input.step b).2.1 (p.input.step b).2.2
def Pp.fin (text:Part -> List UInt8) (p:Pp):Pp × List UInt8 × Nat :=
 if p.may ≠ 0 then (p,[],p.may)
 else (Pp.mk p.input.fin.1 p.output p.hold true p.e).write text p.input.fin.2.1 p.input.fin.2.2
def Pp.held (p:Pp):Nat:=if p.may ≠ 0 then 0 else p.input.held + (match p.hold with | none=>0 | some s=>s.size)
def Pp.run (text:Part -> List UInt8):Pp -> List UInt8 -> Pp × List UInt8 × Nat
 | p,[]=>(p,[],0)
 | p,b :: l =>
  if (p.step text b).2.2 ≠ 0 then ((p.step text b).1,(p.step text b).2.1,(p.step text b).2.2)
  else (((p.step text b).1.run text l).1,(p.step text b).2.1 ++ ((p.step text b).1.run text l).2.1,((p.step text b).1.run text l).2.2)
def batch (text:Part -> List UInt8) (s:Setup) (b:List UInt8):List UInt8 × Nat :=
 if right s=false then ([],1)
 else
  let o:=(Pp.new s).run text b
  if o.2.2 ≠ 0 then (o.2.1,o.2.2) else (o.2.1 ++ (o.1.fin text).2.1,(o.1.fin text).2.2)
end Pip
end
section
namespace Pip
open Json (Part Wr)
theorem Pp.tV (text:Part -> List UInt8) (p:Pp) (b:UInt8) (h:p.may ≠ 0):p.step text b=(p,[],p.may):=by unfold Pp.step;rw [ifp h]
theorem Pp.aGg (text:Part -> List UInt8) (p:Pp) (h:p.may ≠ 0):p.fin text=(p,[],p.may):=by unfold Pp.fin;rw [ifp h]
theorem Pp.aHm {p:Pp} (h:p.may=0):p.e=0 /\ p.over=false:=by
 unfold Pp.may at h;split at h
 ·rename_i h1;exact absurd h h1
 ·rename_i h1
  split at h
  ·cases h
  ·rename_i h2;exact ⟨by omega,by simpa using h2⟩
theorem Pp.aHc (text:Part -> List UInt8) (p:Pp) (v:Part):(p.one text v).1.over=p.over /\ (p.one text v).1.input=p.input:=by
 unfold Pp.one;split
 ·exact ⟨rfl,rfl⟩
 ·split <;> exact ⟨rfl,rfl⟩
theorem Pp.aCe (text:Part -> List UInt8):∀ (l:List Part) (p:Pp) (e:Nat),(p.write text l e).1.e=(p.write text l e).2.2
 | [],p,e=>rfl
 | v :: l,p,e=>by
  unfold Pp.write
  split
  ·rfl
  ·exact Pp.aCe text l _ e
theorem Pp.lO (text:Part -> List UInt8):∀ (l:List Part) (p:Pp) (e:Nat),(p.write text l e).1.over=p.over /\ (p.write text l e).1.input=p.input
 | [],p,e=>⟨rfl,rfl⟩
 | v :: l,p,e=>by
  have h1:=p.aHc text v
  unfold Pp.write
  split
  ·exact h1
  ·have h2:=Pp.lO text l (p.one text v).1 e
   exact ⟨h2.1.trans h1.1,h2.2.trans h1.2⟩
theorem Pp.yD (text:Part -> List UInt8) (p:Pp) (b:UInt8):(p.step text b).1.may=(p.step text b).2.2:=by
 by_cases h:p.may=0
 ·have ⟨h0,ho⟩:=Pp.aHm h
  unfold Pp.step;rw [ifn (by simp [h])];have h1:=Pp.aCe text (p.input.step b).2.1 (Pp.mk (p.input.step b).1 p.output p.hold p.over p.e) (p.input.step b).2.2;have h2:=(Pp.lO text (p.input.step b).2.1 (Pp.mk (p.input.step b).1 p.output p.hold p.over p.e) (p.input.step b).2.2).1;generalize (Pp.mk (p.input.step b).1 p.output p.hold p.over p.e).write text (p.input.step b).2.1 (p.input.step b).2.2=R at h1 h2;unfold Pp.may;rw [h2];simp only [ho,Bool.false_eq_true,if_false];split
  ·exact h1
  ·rename_i h3;rw [<- h1];omega
 ·rw [Pp.tV text p b h]
def Pp.all (text:Part -> List UInt8):Pp -> List UInt8 -> Pp × List UInt8
 | p,[]=>(p,[])
 | p,b :: l=>(((p.step text b).1.all text l).1,(p.step text b).2.1 ++ ((p.step text b).1.all text l).2)
theorem Pp.zC (text:Part -> List UInt8):∀ (l:List UInt8) (p:Pp),p.may ≠ 0 -> p.all text l=(p,[])
 | [],p,_=>rfl
 | b :: l,p,h=>by
  unfold Pp.all
  rw [Pp.tV text p b h]
  simp [Pp.zC text l p h]
theorem Pp.aCi (text:Part -> List UInt8):∀ (l:List UInt8) (p:Pp),p.may=0 -> (p.all text l).2=(p.run text l).2.1 /\ (p.all text l).1=(p.run text l).1 /\ (p.run text l).1.may=(p.run text l).2.2
 | [],p,h=>⟨rfl,rfl,h⟩
 | b :: l,p,h=>by
  have hm:=Pp.yD text p b
  unfold Pp.all Pp.run
  by_cases h1:(p.step text b).2.2=0
  ·rw [ifn (by simp [h1])]
   have ih:=Pp.aCi text l (p.step text b).1 (hm.trans h1)
   exact ⟨by simp only [ih.1],ih.2.1,ih.2.2⟩
  ·rw [ifp h1,Pp.zC text l _ (by rw [hm];exact h1)]
   exact ⟨by simp,rfl,hm⟩
theorem Pp.all_append (text:Part -> List UInt8):∀ (a b:List UInt8) (p:Pp),p.all text (a ++ b)=(((p.all text a).1.all text b).1,(p.all text a).2 ++ ((p.all text a).1.all text b).2)
 | [],b,p=>by simp [Pp.all]
 | x :: a,b,p=>by
  rw [List.cons_append,Pp.all,Pp.all,Pp.all_append text a b]
  simp
theorem Pp.aC6 (s:Setup):(Pp.new s).may=0:=by
 unfold Pp.may Pp.new;simp
theorem tQ (text:Part -> List UInt8) (s:Setup) (h:right s=true) (b:List UInt8):(batch text s b).1=((Pp.new s).all text b).2 ++ ((((Pp.new s).all text b).1.fin text).2.1):=by
 obtain ⟨h1,h2,h3⟩:=Pp.aCi text b (Pp.new s) (Pp.aC6 s);unfold batch;rw [ifn (by simp [h]),h1,h2];simp only;split
 ·rename_i h4
  rw [Pp.aGg text _ (by rw [h3];exact h4)];simp
 ·rfl
def Reader.depth:Reader -> Nat
 | .json p=>p.depth
 | .bB p=>p.c.depth
 | .pack p=>p.c.depth
end Pip
end
section
namespace Pip
def Setup.zero:Setup:=⟨0,0,0,0,0⟩
def byteOf (x:Int):UInt8:=UInt8.ofNat x.toNat
def aQ (s:Setup):List UInt8:=[84,82,byteOf s.from_,byteOf s.to,byteOf s.depth,UInt8.ofNat (s.stage.toNat / 256),UInt8.ofNat s.stage.toNat,byteOf s.limit]
def dI (b:List UInt8) (i:Nat):Int:=((b.getD i 0).toNat:Int)
def cQ (b:List UInt8):Setup:=⟨dI b 2,dI b 3,dI b 4,dI b 5 * 256 + dI b 6,dI b 7⟩
def bK (b:List UInt8):Setup × Nat :=
 if b.take 2 ≠ [84,82].take b.length then (Setup.zero,2)
 else if b.length < 8 then (Setup.zero,3)
 else if right (cQ b)=true then (cQ b,0) else (Setup.zero,2)
theorem fT (s:Setup):right s=true ↔ 1 <= s.from_ /\ s.from_ <= 3 /\ 1 <= s.to /\ s.to <= 3 /\ 1 <= s.depth /\ s.depth <= 16 /\ 0 <= s.stage /\ s.stage <= 2000 /\ 0 <= s.limit /\ s.limit <= 255:=by
 unfold right;simp only [Bool.and_eq_true,decide_eq_true_eq,and_assoc]
theorem lX (s:Setup):(aQ s).length=8:=rfl
theorem dY {x:Int} (h0:0 <= x) (h1:x <= 255):((byteOf x).toNat:Int)=x:=by
 unfold byteOf;rw [UInt8.toNat_ofNat'];omega
theorem aAt (s:Setup) (h:right s=true) (more:List UInt8):cQ (aQ s ++ more)=s:=by
 obtain ⟨h1,h2,h3,h4,h5,h6,h7,h8,h9,h10⟩:=(fT s).1 h;obtain ⟨f,t,d,g,l⟩:=s;simp only at *
 have e1:((UInt8.ofNat (g.toNat / 256)).toNat:Int) * 256 + ((UInt8.ofNat g.toNat).toNat:Int)=g:=by
  rw [UInt8.toNat_ofNat',UInt8.toNat_ofNat'];omega
 simp only [cQ,aQ,dI,List.cons_append,List.nil_append,List.getD_cons_succ,List.getD_cons_zero];rw [dY (by omega) (by omega),dY (by omega) (by omega),dY (by omega) (by omega),dY (by omega) (by omega),e1]
theorem aDf (s:Setup) (h:right s=true) (more:List UInt8):bK (aQ s ++ more)=(s,0):=by
 have h0:(aQ s ++ more).take 2=[84,82].take (aQ s ++ more).length:=by
  simp [aQ]
 unfold bK;rw [ifn (by simp only [ne_eq,h0,not_true_eq_false,not_false_eq_true]),ifn (by rw [lla,lX];omega),aAt s h,ifp h]
theorem mC (x:UInt8):UInt8.ofNat x.toNat=x:=by
 apply UInt8.toNat_inj.1;rw [UInt8.toNat_ofNat'];exact Nat.mod_eq_of_lt x.toNat_lt
theorem aA3 (b:List UInt8) (h8:8 <= b.length) (h2:b.take 2=[84,82]):aQ (cQ b)=b.take 8:=by
 match b,h8,h2 with
 | x0 :: x1 :: x2 :: x3 :: x4 :: x5 :: x6 :: x7 :: r,_,h2 =>
  simp only [List.take_succ_cons,List.take_zero,List.cons.injEq,and_true] at h2;obtain ⟨rfl,rfl⟩:=h2;have hb (x:UInt8):byteOf (x.toNat:Int)=x:=by
   unfold byteOf;rw [Int.toNat_natCast];exact mC x
  have a5:=x5.toNat_lt;have a6:=x6.toNat_lt;have e0:((x5.toNat:Int) * 256 + (x6.toNat:Int)).toNat=x5.toNat * 256 + x6.toNat:=by omega
  have e1:UInt8.ofNat ((x5.toNat * 256 + x6.toNat) / 256)=x5:=by
   rw [show (x5.toNat * 256 + x6.toNat) / 256=x5.toNat by omega];exact mC x5
  have e2:UInt8.ofNat (x5.toNat * 256 + x6.toNat)=x6:=by
   apply UInt8.toNat_inj.1;rw [UInt8.toNat_ofNat'];omega
  simp only [aQ,cQ,dI,List.getD_cons_succ,List.getD_cons_zero,hb,e0,e1,e2,List.take_succ_cons,List.take_zero]
theorem pY (b:List UInt8) (h:(bK b).2=0):8 <= b.length /\ right (bK b).1=true /\ aQ (bK b).1=b.take 8 /\ ∀ more,bK (b ++ more)=bK b:=by
 unfold bK at h;split at h
 ·exact absurd h (by decide)
 ·rename_i h2
  split at h
  ·exact absurd h (by decide)
  ·rename_i h8
   split at h
   ·rename_i hr
    have h2':b.take 2=[84,82]:=by
     have:=Classical.not_not.1 h2;rw [this,List.take_of_length_le (by simp;omega)]
    have hg:bK b=(cQ b,0):=by unfold bK;rw [ifn h2,ifn h8,ifp hr]
    have hb:=aA3 b (by omega) h2';rw [hg];refine ⟨by omega,hr,hb,fun more=>?_⟩;have:b ++ more=aQ (cQ b) ++ (b.drop 8 ++ more):=by
     rw [hb,<- List.append_assoc,List.take_append_drop]
    rw [this,aDf _ hr]
   ·exact absurd h (by decide)
end Pip
end
section
namespace Ses
open Pip
open Json (Part)
structure St where
 inb:List UInt8
 out:List UInt8
 header:List UInt8
 setup:Setup
 told:Bool
 p:Option Pp
 half:Bool
 ended:Bool
 e:Nat
def St.new:St:=⟨[],[],[],Setup.zero,false,none,false,false,0⟩
def St.cE (s:St) (b:List UInt8) (room:Int):Nat:=if s.half || s.ended then 0 else min (min b.length room.toNat) (64 - s.inb.length)
def St.feed (s:St) (b:List UInt8) (room:Int):St:={ s with inb:=s.inb ++ b.take (s.cE b room) }
def St.aL2 (s:St):St:=if s.half || s.ended then s else { s with half:=true }
def St.ready (s:St):Bool:=!s.ended && decide (s.out.length < 64) && (decide (0 < s.inb.length) || s.half)
def St.stop (s:St) (e:Nat) (told:Bool):St:={ s with inb:=[],out:=s.out ++ [if told then 255 else 78,UInt8.ofNat e],p:=none,ended:=true,e:=e }
def heldO:Option Pp -> Nat
 | none=>0
 | some p=>p.held
def St.aH (s:St):Nat:=s.inb.length + s.out.length + (if s.ended then 0 else heldO s.p + 2)
def St.iP (s:St) (b:UInt8):St :=
 let h:=s.header ++ [b]
 if (bK h).2=3 then { s with header:=h }
 else if (bK h).2=0 then { s with header:=h,setup:=(bK h).1,told:=true,p:=some (Pp.new (bK h).1),out:=s.out ++ [75] }
 else { s with header:=h }.stop (bK h).2 false
def St.byte (text:Part -> List UInt8) (s:St) (p:Pp) (b:UInt8):St :=
 let t:St:={ s with out:=s.out ++ (p.step text b).2.1,p:=some (p.step text b).1 }
 if (p.step text b).2.2 ≠ 0 then t.stop (p.step text b).2.2 true else t
def St.once (text:Part -> List UInt8) (s:St):St :=
 match s.inb,s.told,s.p with
 | [],false,_=>s.stop 3 false
 | [],true,some p=>{ s with out:=s.out ++ (p.fin text).2.1 }.stop (p.fin text).2.2 true
 | b :: l,true,some p=>{ s with inb:=l }.byte text p b
 | b :: l,false,_=>{ s with inb:=l }.iP b
 | _,true,none=>s
def refused (may:Option (Int -> Bool)) (n:Nat):Bool :=
 match may with
 | none=>false
 | some f=>!f (n:Int)
def St.jC (text:Part -> List UInt8) (may:Option (Int -> Bool)) (s:St):St :=
 if refused may (s.once text).aH then { s.once text with out:=(s.once text).out.take s.out.length }.stop 11 s.told else s.once text
def St.run (text:Part -> List UInt8) (may:Option (Int -> Bool)):Nat -> St -> St × Nat
 | 0,s=>(s,0)
 | n + 1,s=>if s.ready=true then ((St.run text may n (s.jC text may)).1,(St.run text may n (s.jC text may)).2 + 1) else (s,0)
def St.write (s:St) (k:Int):St:={ s with out:=s.out.drop k.toNat }
def St.closed (s:St):Bool:=s.ended && s.out.isEmpty
structure St.iB (text:Part -> List UInt8) (s:St):Prop where
 room:s.inb.length <= 64
 e:s.e < 256
 over:s.ended=true -> s.p=none /\ s.inb=[]
 early:s.told=false -> s.p=none /\ s.header.length < 8
 late:s.told=true -> s.ended=false -> right s.setup=true /\ ∃ l,s.p=some ((Pp.new s.setup).all text l).1 /\ ((Pp.new s.setup).all text l).1.may=0
end Ses
end
section
namespace Pip
open Json (Part Wr)
open Esc (Val Par)
def WV (p:Part):Prop:=∀ s,p = .word s -> Val s.data.toList
theorem WV.null:WV .null:=fun _ h=>by cases h
theorem WV.bool (b:Bool):WV (.bool b):=fun _ h=>by cases h
theorem WV.close:WV .close:=fun _ h=>by cases h
theorem WV.whole (n:Bool) (m:Nat):WV (.whole n m):=fun _ h=>by cases h
theorem WV.aG (m:Bool) (c:Int):WV (.aG m c):=fun _ h=>by cases h
theorem WV.cW (s:ByteArray):WV (.cW s):=fun _ h=>by cases h
theorem WV.word {l:List UInt8} (h:Val l):WV (.word ⟨l.toArray⟩):=fun s e=>by cases e;exact h
structure gM (l:Lex):Prop where
 told:l.e=0 -> l.state=1 -> Esc.Told l.r l.s
structure mQ (o:Lex × List Tok):Prop where
 l:gM o.1
 aE5:∀ t ∈ o.2,Val t.text
theorem mQ.skip {l:Lex} (h:l.e=0 -> l.state ≠ 1):mQ (l,[]):=⟨⟨fun h0 h1=>absurd h1 (h h0)⟩,fun _ ht=>by cases ht⟩
theorem mQ.same {l:Lex} (h:gM l):mQ (l,[]):=⟨h,fun _ ht=>by cases ht⟩
theorem mQ.tok {l:Lex} (t:Tok) (h:l.e=0 -> l.state ≠ 1) (ht:Val t.text):mQ (l,[t]):=⟨⟨fun h0 h1=>absurd h1 (h h0)⟩,fun x hx=>by rw [List.mem_singleton.1 hx];exact ht⟩
theorem gM.aK {l:Lex} (h:l.state ≠ 1) (b:UInt8):mQ (l.aK b):=by
 unfold Lex.aK;split
 ·exact .skip fun _=>h
 ·split
  ·exact .tok _ (fun _=>h) .nil
  ·split
   ·exact .same ⟨fun _ _=>Esc.Told.zero⟩
   ·split
    ·exact .skip fun _=>by show (2:Nat) ≠ 1;decide
    ·split
     ·exact .skip fun _=>by show (3:Nat) ≠ 1;decide
     ·split
      ·exact .skip fun _=>by show (3:Nat) ≠ 1;decide
      ·split
       ·exact .skip fun _=>by show (3:Nat) ≠ 1;decide
       ·exact .skip fun h0=>absurd (show (2:Nat)=0 from h0) (by decide)
theorem gM.text {l:Lex} (h:gM l) (h0:l.e=0) (h1:l.state=1) (b:UInt8):mQ (l.text b):=by
 have ht:=h.told h0 h1;unfold Lex.text;split
 ·rename_i k
  exact .tok _ (fun _=>by show (0:Nat) ≠ 1;decide) (ht.whole k.2)
 ·refine .same ⟨fun he _=>?_⟩
  have:(l.r.step b).2.2=0:=by
   dsimp only at he
   split at he
   ·cases he
   ·exact he
  exact ht.step b this
theorem gM.word {l:Lex} (h:l.state ≠ 1) (b:UInt8):mQ (l.word b):=by
 unfold Lex.word;split
 ·exact .skip fun _=>h
 ·split
  ·exact .skip fun _=>h
  ·split
   ·exact .tok _ (fun _=>by show (0:Nat) ≠ 1;decide) .nil
   ·exact .skip fun _=>h
theorem gM.ended (l:Lex) (h:l.state ≠ 1):mQ l.ended /\ (l.ended.1.e=0 -> l.ended.1.state ≠ 1):=by
 unfold Lex.ended;split
 ·exact ⟨.skip fun _=>h,fun _=>h⟩
 ·exact ⟨.tok _ (fun _=>by show (0:Nat) ≠ 1;decide) .nil,fun _=>by show (0:Nat) ≠ 1;decide⟩
theorem gM.number {l:Lex} (h:l.state ≠ 1) (b:UInt8):mQ (l.number b):=by
 unfold Lex.number;split
 ·exact .skip fun _=>h
 ·dsimp only
  have he:=gM.ended ⟨l.state,l.r,l.s,(l.n.step b).1,l.rest,l.kind,0⟩ h;split
  ·rename_i k;exact .skip fun h0=>absurd h0 k
  ·rename_i k
   have hb:=gM.aK (he.2 (by simpa using k)) b;refine ⟨hb.l,fun t ht=>?_⟩;rcases List.mem_append.1 ht with ht | ht
   ·exact he.1.aE5 t ht
   ·exact hb.aE5 t ht
theorem gM.act {l:Lex} (h:gM l) (h0:l.e=0) (b:UInt8):mQ (l.act b):=by
 unfold Lex.act;split
 ·rename_i k;exact h.text h0 k b
 ·rename_i k
  split
  ·exact gM.word k b
  ·split
   ·exact gM.number k b
   ·exact gM.aK k b
theorem gM.step {l:Lex} (h:gM l) (b:UInt8):mQ ((l.step b).1,(l.step b).2.1):=by
 unfold Lex.step;split
 ·exact .same h
 ·rename_i k
  have ha:=h.act (by simpa using k) b;split
  ·exact .same ha.l
  ·exact ha
theorem gM.fin {l:Lex} (h:gM l):mQ (l.fin.1,l.fin.2.1):=by
 unfold Lex.fin;split
 ·exact .same h
 ·split
  ·rename_i k
   exact (gM.ended l (by omega)).1
  ·exact .same ⟨fun h0=>absurd (show (3:Nat)=0 from h0) (by decide)⟩
theorem Jin.aKb (p:Jin) (t:Tok):(p.value t).1.l=p.l:=by
 unfold Jin.value
 repeat' split
 all_goals rfl
theorem Jin.aCk (p:Jin) (t:Tok):(p.token t).1.l=p.l:=by
 unfold Jin.token
 repeat' split
 all_goals first | rfl | exact Jin.aKb _ _
theorem Jin.parts_l:∀ (l:List Tok) (p:Jin) (e:Nat),(p.parts l e).1.l=p.l
 | [],_,_=>rfl
 | t :: l,p,e=>by
  unfold Jin.parts
  split
  ·exact Jin.aCk p t
  ·exact (Jin.parts_l l _ e).trans (Jin.aCk p t)
theorem Jin.aGn (p:Jin) (t:Tok) (ht:Val t.text):∀ v,(p.token t).2=some v -> WV v:=by
 intro v hv;unfold Jin.token Jin.value at hv
 repeat' split at hv
 all_goals first
  | (cases hv;done)
  | (obtain rfl:=Option.some.inj hv;first | exact .word ht | exact .close | exact .null | exact .bool _ | exact .whole _ _ | exact .aG _ _)
theorem Jin.parts_wv:∀ (l:List Tok) (p:Jin) (e:Nat),(∀ t ∈ l,Val t.text) -> ∀ v ∈ (p.parts l e).2.1,WV v
 | [],_,_,_=>fun _ h=>by cases h
 | t :: l,p,e,h=>by
  unfold Jin.parts
  split
  ·exact fun _ h=>by cases h
  ·intro v hv
   rcases List.mem_append.1 hv with hv | hv
   ·exact Jin.aGn p t (h t (by simp)) v (by simpa [Option.mem_toList] using hv)
   ·exact Jin.parts_wv l _ e (fun x hx=>h x (by simp [hx])) v hv
theorem Jin.aKl {p:Jin} (h:gM p.l) (b:UInt8):gM (p.step b).1.l /\ ∀ v ∈ (p.step b).2.1,WV v:=by
 unfold Jin.step;split
 ·exact ⟨h,fun _ hv=>by cases hv⟩
 ·have o:=h.step b
  refine ⟨?_,Jin.parts_wv _ _ _ o.aE5⟩;rw [Jin.parts_l];exact o.l
theorem Jin.aLo {p:Jin} (h:gM p.l):∀ v ∈ p.fin.2.1,WV v:=by
 unfold Jin.fin;split
 ·exact fun _ hv=>by cases hv
 ·have o:=h.fin
  have hp:=Jin.parts_wv p.l.fin.2.1 (p.on p.l.fin.1) p.l.fin.2.2 o.aE5
  dsimp only
  split <;> exact hp
structure CV (c:Core):Prop where
 idle:c.e=0 -> c.lack=0 -> c.chunks=false -> c.s=[]
 val:c.e=0 -> c.word=true -> c.lack=0 -> Val c.s
 par:c.e=0 -> c.word=true -> 0 < c.lack -> Par c.c c.s
structure CO (o:Core × List Part):Prop where
 c:CV o.1
 told:∀ v ∈ o.2,WV v
theorem CV.new (d:Nat):CV (Core.new d):=⟨fun _ _ _=>rfl,fun _ _ _=>.nil,fun _ _ h=>absurd h (by show ¬ 0 < 0;decide)⟩
theorem CO.fail (c:Core) (e:Nat) (h:e ≠ 0):CO (c.fail e):=⟨⟨fun h0=>absurd h0 h,fun h0=>absurd h0 h,fun h0=>absurd h0 h⟩,fun _ hv=>by cases hv⟩
theorem Core.yU (c:Core) (v:Part) (hv:WV v):∀ x ∈ (c.value v).2,WV x:=by
 intro x hx;rcases List.mem_cons.1 hx with rfl | hx
 ·exact hv
 ·rw [List.eq_of_mem_replicate hx];exact .close
theorem CO.value {c:Core} (h:CV c) (v:Part) (hv:WV v):CO (c.value v):=⟨⟨h.idle,h.val,h.par⟩,Core.yU c v hv⟩
theorem CO.begin {c:Core} (h:CV c) (pairs:Bool) (count:Int):CO (c.begin pairs count):=by
 unfold Core.begin;split
 ·refine ⟨(CO.value h .close .close).c,fun x hx=>?_⟩
  rcases List.mem_cons.1 hx with rfl | hx
  ·exact .aG _ _
  ·exact Core.yU c .close .close x hx
 ·exact ⟨⟨h.idle,h.val,h.par⟩,fun x hx=>by rw [List.mem_singleton.1 hx];exact .aG _ _⟩
theorem CO.break {c:Core} (h:CV c):CO c.break:=by
 unfold Core.break;split
 ·exact .fail c 2 (by decide)
 ·split
  ·exact .fail c 2 (by decide)
  ·exact .value (c:=Core.mk c.depth c.opened.dropLast c.done c.e c.word c.chunks c.lack c.s c.c) ⟨h.idle,h.val,h.par⟩ .close .close
theorem CO.text (c:Core) (hl:c.lack=0) (hv:c.word=true -> Val c.s):CO c.text:=by
 unfold Core.text;refine .value (c:=Core.mk c.depth c.opened c.done c.e c.word false c.lack [] c.c) ⟨fun _ _ _=>rfl,fun _ _ _=>.nil,fun _ _ h=>absurd h (by show ¬ 0 < c.lack;omega)⟩ _ ?_;split
 ·rename_i k;exact .word (hv k)
 ·exact .cW _
theorem CO.length {c:Core} (h:CV c) (h0:c.e=0) (hl:c.lack=0) (word:Bool) (n:Nat) (hw:c.chunks=true -> word=c.word):CO (c.length word n):=by
 have hs:word=true -> Val c.s:=by
  intro k
  cases hc:c.chunks with
  | false=>rw [h.idle h0 hl hc];exact .nil
  | true=>exact h.val h0 (by rw [<- hw hc];exact k) hl
 unfold Core.length;split
 ·exact .fail c 5 (by decide)
 ·dsimp only
  split
  ·rename_i k
   refine ⟨⟨fun _ (h1:n=0) (h2:c.chunks=false)=>?_,fun _ k _=>hs k,fun _ k _=>.of rfl rfl (hs k)⟩,fun _ hv=>by cases hv⟩;exact absurd k (by rw [h1,h2];decide)
  ·rename_i k
   exact .text _ (by show n=0;omega) hs
theorem CO.byte {c:Core} (h:CV c) (h0:c.e=0) (hl:0 < c.lack) (b:UInt8):CO (c.byte b):=by
 unfold Core.byte;split
 ·exact .fail _ 9 (by decide)
 ·rename_i k
  have hp:c.word=true -> Par (c.chk b) (c.s ++ [b]):=by
   intro hw;have h2:(c.c.step b).2=true:=by
    cases h3:(c.c.step b).2 with
    | true=>rfl
    | false=>exact absurd ⟨hw,.inl h3⟩ k
   unfold Core.chk;rw [ifp hw];exact (h.par h0 hw hl).step b h2
  have hv:c.word=true -> c.lack=1 -> Val (c.s ++ [b]):=by
   intro hw h1;have h2:(c.chk b).whole=true:=by
    cases h3:(c.chk b).whole with
    | true=>rfl
    | false=>exact absurd ⟨hw,.inr ⟨h1,h3⟩⟩ k
   refine (hp hw).val ?_;simp only [Esc.Chk.whole,Bool.and_eq_true,beq_iff_eq] at h2;exact h2.2
  split
  ·rename_i k2
   refine ⟨⟨fun _ (h1:c.lack - 1=0) (h2:c.chunks=false)=>?_,fun _ hw (h1:c.lack - 1=0)=>hv hw (by omega),fun _ hw _=>hp hw⟩,fun _ hv=>by cases hv⟩;rcases k2 with k2 | k2
   ·omega
   ·rw [h2] at k2;cases k2
  ·rename_i k2
   exact .text _ (by show c.lack - 1=0;omega) fun hw=>hv hw (by omega)
structure aAs (p:Cin):Prop where
 c:CV p.c
 idle:p.c.e=0 -> p.begun=false -> p.h=Hd.new
 busy:p.c.e=0 -> p.begun=true -> p.h.begun=true /\ p.h.fin=false /\ p.h.e=0 /\ p.c.lack=0 /\ (p.c.chunks=true -> p.h.major=if p.c.word then 3 else 2)
theorem aAs.new (d:Nat):aAs (Cin.new d):=⟨.new d,fun _ _=>rfl,fun _ h=>by cases h⟩
structure nC (o:Cin × List Part):Prop where
 p:aAs o.1
 told:∀ v ∈ o.2,WV v
theorem nC.on {p:Cin} (h:p.h=Hd.new) (hb:p.begun=false) {o:Core × List Part} (ho:CO o):nC (p.on o) :=
 ⟨⟨ho.c,fun _ _=>h,fun _ h2=>by rw [show (p.on o).1.begun=p.begun from rfl,hb] at h2;cases h2⟩,ho.told⟩
theorem nC.fail (p:Cin) (e:Nat) (h:e ≠ 0):nC (p.on (p.c.fail e)) :=
 ⟨⟨(CO.fail p.c e h).c,fun h0=>absurd h0 h,fun h0=>absurd h0 h⟩,fun _ hv=>by cases hv⟩
theorem nC.behind {p:Cin} (hc:CV p.c) (h0:p.c.e=0) (hl:p.c.lack=0) (hh:p.h=Hd.new) (hb:p.begun=false) (major v:Nat) (without:Bool) (hm:p.c.chunks=true -> major=if p.c.word then 3 else 2):nC (p.behind major v without):=by
 have hw:p.c.chunks=true -> decide (major=3)=p.c.word:=by
  intro k;have:=hm k
  cases hx:p.c.word <;> rw [hx] at this <;> simp [this]
 unfold Cin.behind;split
 ·exact .on hh hb (.value hc _ (.whole _ _))
 ·split
  ·split
   ·refine ⟨⟨⟨fun _ _ h=>absurd (show true=false from h) (by decide),fun _ k _=>?_,fun _ _ h=>absurd (show 0 < p.c.lack from h) (by omega)⟩,fun _ _=>hh,fun _ h2=>?_⟩,fun _ hv=>by cases hv⟩
    ·show Val p.c.s
     cases hx:p.c.chunks with
     | false=>rw [hc.idle h0 hl hx];exact .nil
     | true=>exact hc.val h0 (by rw [<- hw hx];exact k) hl
    ·rw [show p.begun=true from h2] at hb;cases hb
   ·exact .on hh hb (.length hc h0 hl _ _ hw)
  ·split
   ·exact .on hh hb (.begin hc _ _)
   ·split
    ·exact .fail p 7 (by decide)
    ·exact .on hh hb (.begin hc _ _)
theorem nC.head {p:Cin} (hc:CV p.c) (h0:p.c.e=0) (hl:p.c.lack=0) (b:UInt8) (hbg:(p.h.step b).1.begun=true) (hm:p.c.chunks=true -> (p.h.step b).1.major=if p.c.word then 3 else 2) (hst:(p.h.step b).2.2=0 -> (p.h.step b).1.fin=(p.h.step b).2.1 /\ (p.h.step b).1.e=0):nC (p.head b):=by
 unfold Cin.head
 dsimp only
 split
 ·rename_i k;exact .fail _ _ k
 ·rename_i k
  have hs:=hst (by simpa using k);split
  ·rename_i k2
   refine ⟨⟨hc,fun _ h2=>?_,fun _ _=>⟨hbg,by rw [show ((p.h.step b).1).fin=(p.h.step b).2.1 from hs.1];exact k2,hs.2,hl,hm⟩⟩,fun _ hv=>by cases hv⟩;rw [show (Cin.mk p.c (p.h.step b).1 (!(p.h.step b).2.1)).begun = !(p.h.step b).2.1 from rfl,k2] at h2
   cases h2
  ·exact .behind (p:=Cin.mk p.c Hd.new false) hc h0 hl rfl rfl _ _ _ hm
theorem nC.simple {p:Cin} (hc:CV p.c) (hh:p.h=Hd.new) (hb:p.begun=false) (low:Nat):nC (p.simple low):=by
 unfold Cin.simple;split
 ·exact .on hh hb (.value hc _ (.bool _))
 ·split
  ·exact .on hh hb (.value hc _ .null)
  ·split
   ·exact .fail p 6 (by decide)
   ·exact .fail p 8 (by decide)
theorem nC.act {p : Cin} (h : aAs p) (h0 : p.c.e = 0) (b : UInt8)
  (new1:(Hd.new.step b).1.major=b.toNat / 32 /\ (Hd.new.step b).1.begun=true) (begun1:p.h.begun=true -> (p.h.step b).1.major=p.h.major /\ (p.h.step b).1.begun=true)
  (hst:(p.h.step b).2.2=0 -> (p.h.step b).1.fin=(p.h.step b).2.1 /\ (p.h.step b).1.e=0):nC (p.act b):=by
 unfold Cin.act;split
 ·rename_i hl
  have hb:p.begun=false:=by
   cases k:p.begun with
   | false=>rfl
   | true=>have:=(h.busy h0 k).2.2.2.1;omega
  exact .on (h.idle h0 hb) hb (.byte h.c h0 hl b)
 ·rename_i hl
  have hl0:p.c.lack=0:=by omega
  split
  ·rename_i hb
   obtain ⟨b1,b2,b3,b4,b5⟩:=h.busy h0 hb;have:=begun1 b1;exact .head h.c h0 hl0 b this.2 (fun k=>this.1.trans (b5 k)) hst
  ·rename_i hb
   have hb:p.begun=false:=by simpa using hb
   have hh:=h.idle h0 hb;have n1:(p.h.step b).1.major=b.toNat / 32 /\ (p.h.step b).1.begun=true:=by rw [hh];exact new1
   split
   ·rename_i hc
    unfold Cin.chunk;split
    ·exact .on hh hb (.text p.c hl0 fun k=>h.c.val h0 k hl0)
    ·by_cases k:b.toNat / 32 ≠ (if p.c.word then 3 else 2) \/ b.toNat % 32=31
     ·rw [ifp k];exact .fail p 2 (by decide)
     ·rw [ifn k]
      refine .head h.c h0 hl0 b n1.2 (fun _=>?_) hst;rw [n1.1];exact Classical.byContradiction fun hx=>k (.inl hx)
   ·rename_i hc
    have hc:¬ p.c.chunks=true:=hc;unfold Cin.item
    dsimp only
    repeat' split
    all_goals first
     | exact .fail p _ (by decide)
     | exact .on hh hb (.break h.c)
     | exact .simple h.c hh hb _
     | exact .head h.c h0 hl0 b n1.2 (fun k=>absurd k hc) hst
structure oQ (p:Pin):Prop where
 c:CV p.c
 chunks:p.c.chunks=false
 busy:p.c.e=0 -> p.kind ≠ 0 -> p.c.lack=0
structure iA (o:Pin × List Part):Prop where
 p:oQ o.1
 told:∀ v ∈ o.2,WV v
theorem oQ.new (d:Nat):oQ (Pin.new d):=⟨.new d,rfl,fun _ h=>absurd rfl h⟩
theorem iA.on {p:Pin} (hk:p.kind=0) {o:Core × List Part} (ho:CO o) (hc:o.1.chunks=false):iA (p.on o):=⟨⟨ho.c,hc,fun _ h=>absurd hk h⟩,ho.told⟩
theorem iA.fail (p:Pin) (hc:p.c.chunks=false) (e:Nat) (h:e ≠ 0):iA (p.on (p.c.fail e)):=⟨⟨(CO.fail p.c e h).c,hc,fun h0=>absurd h0 h⟩,fun _ hv=>by cases hv⟩
theorem Core.mA (c:Core) (pairs:Bool) (n:Int):(c.begin pairs n).1.chunks=c.chunks:=by
 unfold Core.begin;split <;> rfl
theorem Core.sM (c:Core) (word:Bool) (n:Nat) (h:c.chunks=false):(c.length word n).1.chunks=false:=by
 unfold Core.length
 dsimp only
 repeat' split
 all_goals first | rfl | exact h
theorem Core.zF (c:Core) (b:UInt8) (h:c.chunks=false):(c.byte b).1.chunks=false:=by
 unfold Core.byte
 repeat' split
 all_goals first | rfl | exact h
theorem iA.value {p:Pin} (h:oQ p) (hk:p.kind=0) (v:Part) (hv:WV v):iA (p.on (p.c.value v)):=.on hk (.value h.c v hv) h.chunks
theorem iA.count {p:Pin} (h:oQ p) (hk:p.kind=0) (pairs:Bool) (n:Nat):iA (p.count pairs n):=by
 unfold Pin.count;split
 ·exact .fail p h.chunks 7 (by decide)
 ·exact .on hk (.begin h.c _ _) ((Core.mA ..).trans h.chunks)
theorem iA.length {p:Pin} (h:oQ p) (h0:p.c.e=0) (hl:p.c.lack=0) (hk:p.kind=0) (word:Bool) (n:Nat):iA (p.on (p.c.length word n)) :=
 .on hk (.length h.c h0 hl word n fun k=>by rw [h.chunks] at k;cases k) (Core.sM _ _ _ h.chunks)
theorem iA.behind {p:Pin} (h:oQ p) (h0:p.c.e=0) (hl:p.c.lack=0) (hk:p.kind=0) (kind v:Nat):iA (p.behind kind v):=by
 unfold Pin.behind
 repeat' split
 all_goals first
  | exact .value h hk _ (.whole _ _)
  | exact .length h h0 hl hk _ _
  | exact .count h hk _ _
theorem iA.follows {p:Pin} (h:oQ p) (hl:p.c.lack=0) (kind n:Nat):iA (p.follows kind n):=⟨⟨h.c,h.chunks,fun _ _=>hl⟩,fun _ hv=>by cases hv⟩
theorem iA.ite {c:Prop} [Decidable c] {a b:Pin × List Part} (ha:iA a) (hb:iA b):iA (if c then a else b):=by
 split
 ·exact ha
 ·exact hb
theorem iA.act {p:Pin} (h:oQ p) (h0:p.c.e=0) (b:UInt8):iA (p.act b):=by
 unfold Pin.act;split
 ·rename_i hl
  have hk:p.kind=0:=by
   by_cases k:p.kind=0
   ·exact k
   ·have:=h.busy h0 k;omega
  exact .on hk (.byte h.c h0 hl b) (Core.zF _ _ h.chunks)
 ·rename_i hl
  have hl0:p.c.lack=0:=by omega
  split
  ·unfold Pin.number
   dsimp only
   split
   ·exact ⟨⟨h.c,h.chunks,fun _ _=>hl0⟩,fun _ hv=>by cases hv⟩
   ·exact .behind (p:=Pin.mk p.c 0 (p.lack - 1) p.all _) ⟨h.c,h.chunks,fun _ h=>absurd rfl h⟩ h0 hl0 rfl _ _
  ·rename_i hk
   have hk:p.kind=0:=by simpa using hk
   unfold Pin.item Pin.long
   dsimp only
   repeat' (refine iA.ite ?_ ?_)
   all_goals first
    | exact .fail p h.chunks _ (by decide)
    | exact .value h hk _ (.whole _ _)
    | exact .value h hk _ .null
    | exact .value h hk _ (.bool _)
    | exact .length h h0 hl0 hk _ _
    | exact .count h hk _ _
    | exact .on hk (.begin h.c _ _) ((Core.mA ..).trans h.chunks)
    | exact .follows h hl0 _ _
def Reader.V:Reader -> Prop
 | .json p=>gM p.l
 | .bB p=>aAs p
 | .pack p=>oQ p
end Pip
end
end Go.Proofs.YtcjflgmcjfcodaaGreat
