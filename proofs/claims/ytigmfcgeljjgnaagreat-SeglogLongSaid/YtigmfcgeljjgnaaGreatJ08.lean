/- A part of the walks through the log and its document, and of the law in plain Lean: Sf Xp GA. -/
import Derived.Test.YtigmfcgeljjgnaaGreatJ07
set_option linter.all false
namespace Go.Wst.Sg
structure En where
  epoch:Int
  id:Int
  num:Int
  seq:Int
  kind:Int
  val:Int
deriving DecidableEq
def En.zero:En:=⟨0,0,0,0,0,0⟩
abbrev By:=List UInt8
def numB (n:Nat):By:=if h:n<128 then [UInt8.ofNat n] else UInt8.ofNat (n % 128+128) :: numB (n / 128)
termination_by n
decreasing_by omega
def takeB (i acc:Nat):By->Option (Nat×By)
  | []=>none
  | c :: l=>if 8<=i/\128<=c.toNat then none else if c.toNat<128 then (if 0<i/\c.toNat=0 then none else some (acc+c.toNat*128 ^ i,l)) else takeB (i+1) (acc+(c.toNat % 128)*128 ^ i) l
theorem numB_small {n:Nat} (h:n<128):numB n=[UInt8.ofNat n]:=by rw [numB,dif_pos h]
theorem numB_big {n:Nat} (h:¬ n<128):numB n=UInt8.ofNat (n % 128+128) :: numB (n / 128):=by rw [numB,dif_neg h]
theorem toNat_ofNat {n:Nat} (h:n<256):(UInt8.ofNat n).toNat=n:=by simp;omega
theorem take_num (n:Nat):∀ (i acc:Nat) (r:By),(0<i->0<n)->n<128 ^ (9 - i)->i<=8->takeB i acc (numB n++r)=some (acc+n*128 ^ i,r):=by
  induction n using Nat.strongRecOn with
  | _ n ih=>
    intro i acc r h0 hn hi
    by_cases h:n<128
    · rw [numB_small h]
      have e:=toNat_ofNat (n:=n) (by omega)
      simp only [List.cons_append,List.nil_append,takeB,e]
      rw [if_neg (by omega),if_pos h,if_neg (by omega)]
    rw [numB_big h]
    have e:=toNat_ofNat (n:=n % 128+128) (by omega)
    have h8:i<8:=by
      rcases Nat.lt_or_ge i 8 with h1 | h1
      · exact h1
      have:i=8:=by omega
      subst this
      simp at hn
      omega
    simp only [List.cons_append,takeB,e]
    rw [if_neg (by omega),if_neg (by omega)]
    have e2:(n % 128+128) % 128=n % 128:=by omega
    rw [e2,ih (n / 128) (by omega) (i+1) _ r (fun _=>by omega) (by
      have:9 - i=(9 - (i+1))+1:=by omega
      rw [this,Nat.pow_succ] at hn
      omega) (by omega)]
    congr 2
    have h3:128 ^ (i+1)=128 ^ i*128:=Nat.pow_succ ..
    have h4:n=n / 128*128+n % 128:=by omega
    rw [h3]
    conv=>rhs;rw [h4]
    rw [Nat.add_mul,Nat.mul_comm (128 ^ i) 128,<- Nat.mul_assoc]
    omega
theorem num_take:∀ (b:By) (i acc n:Nat) (r:By),i<=8->takeB i acc b=some (n,r)->∃ m,n=acc+m*128 ^ i/\b=numB m++r/\(0<i->0<m)/\m<128 ^ (9 - i)
  | [],_,_,_,_,_,h=>by simp [takeB] at h
  | c :: l,i,acc,n,r,hi,h=>by
    have hc:c.toNat<256:=UInt8.toNat_lt c
    simp only [takeB] at h
    by_cases h1:8<=i/\128<=c.toNat
    · rw [if_pos h1] at h;cases h
    rw [if_neg h1] at h
    by_cases h2:c.toNat<128
    · rw [if_pos h2] at h
      by_cases h3:0<i/\c.toNat=0
      · rw [if_pos h3] at h;cases h
      rw [if_neg h3] at h
      simp only [Option.some.injEq,Prod.mk.injEq] at h
      refine ⟨c.toNat,h.1.symm,?_,by omega,?_⟩
      · rw [numB_small h2,<- h.2];simp
      have h8:128 ^ 1<=128 ^ (9 - i):=Nat.pow_le_pow_right (by omega) (by omega)
      omega
    rw [if_neg h2] at h
    obtain ⟨m,e1,e2,e3,e4⟩:=num_take l (i+1) _ n r (by omega) h
    have hm:=e3 (by omega)
    refine ⟨m*128+c.toNat % 128,?_,?_,by omega,?_⟩
    · rw [e1,Nat.pow_succ,Nat.add_mul,Nat.mul_comm (128 ^ i) 128,<- Nat.mul_assoc];omega
    · rw [numB_big (by omega),e2]
      have a1:(m*128+c.toNat % 128) % 128+128=c.toNat:=by omega
      have a2:(m*128+c.toNat % 128) / 128=m:=by omega
      rw [a1,a2]
      simp
    have:9 - i=(9 - (i+1))+1:=by omega
    rw [this,Nat.pow_succ]
    omega
theorem num_take0 {b:By} {n:Nat} {r:By} (h:takeB 0 0 b=some (n,r)):b=numB n++r/\n<9223372036854775808:=by
  obtain ⟨m,e1,e2,_,e4⟩:=num_take b 0 0 n r (by omega) h
  simp at e1 e4
  subst e1
  exact ⟨e2,by omega⟩
theorem take_num0 {n:Nat} (h:n<9223372036854775808) (r:By):takeB 0 0 (numB n++r)=some (n,r):=by
  have:=take_num n 0 0 r (by omega) (by omega) (by omega)
  simpa using this
def zig (v:Int):Nat:=if v<0 then (-2*v - 1).toNat else (2*v).toNat
def unz (n:Nat):Int:=if n % 2=1 then -((n / 2:Nat):Int) - 1 else ((n / 2:Nat):Int)
theorem unz_zig (v:Int):unz (zig v)=v:=by
  unfold unz zig
  split<;>split<;>omega
theorem zig_unz (n:Nat):zig (unz n)=n:=by
  unfold unz zig
  split<;>split<;>omega
def in31 (a least:Int):Prop:=least<=a/\a<=2147483647
instance (a b:Int):Decidable (in31 a b):=inferInstanceAs (Decidable (_/\_))
def Right (e:En):Prop:=
  in31 e.epoch 1/\1<=e.kind/\e.kind<=3/\-1<=e.id/\e.id<=3/\(1<e.kind->0<=e.id/\e.seq=0/\e.val=0)/\(e.id<0->e.num=0/\e.seq=0)/\(0<=e.id->in31 e.num 1)/\in31 e.seq 0/\in31 e.val (-2147483648)
instance (e:En):Decidable (Right e):=inferInstanceAs (Decidable (_/\_))
def byteI (a:Int):UInt8:=UInt8.ofNat (a % 256).toNat
def body (e:En):By:=
  [byteI e.kind]++numB e.epoch.toNat++[byteI (e.id+1)]++(if 0<=e.id then numB e.num.toNat else [])++(if e.kind=1/\0<=e.id then numB e.seq.toNat else [])++(if e.kind=1 then numB (zig e.val) else [])
abbrev St:=En×By
def rd0:St->Option St
  | (_,[])=>none
  | (e,c :: l)=>some ({ e with kind:=c.toNat },l)
def rd1 (s:St):Option St:=(takeB 0 0 s.2).map (fun p=>({ s.1 with epoch:=p.1 },p.2))
def rd2:St->Option St
  | (_,[])=>none
  | (e,c :: l)=>some ({ e with id:=(c.toNat:Int) - 1 },l)
def rd3 (s:St):Option St:=if 0<=s.1.id then (takeB 0 0 s.2).map (fun p=>({ s.1 with num:=p.1 },p.2)) else some s
def rd4 (s:St):Option St:=if s.1.kind=1/\0<=s.1.id then (takeB 0 0 s.2).map (fun p=>({ s.1 with seq:=p.1 },p.2)) else some s
def rd5 (s:St):Option St:=if s.1.kind=1 then (takeB 0 0 s.2).map (fun p=>({ s.1 with val:=unz p.1 },p.2)) else some s
def parse (b:By):Option En:=match ((((((rd0 (En.zero,b)).bind rd1).bind rd2).bind rd3).bind rd4).bind rd5) with
  | some (e,[])=>if Right e then some e else none
  | _=>none
def le4 (w:W32):By:=[UInt8.ofNat (w.toNat % 256),UInt8.ofNat (w.toNat / 256 % 256),UInt8.ofNat (w.toNat / 65536 % 256),UInt8.ofNat (w.toNat / 16777216 % 256)]
def framed (b:By):By:=le4 (sumW b)++[UInt8.ofNat b.length]++b
def frame (e:En):By:=framed (body e)
def readF (b:By):En×Nat×Int:=
  if b.length<5 then (En.zero,0,120)
  else
    let n:=(b.getD 4 0).toNat
    if n=0\/35<n then (En.zero,0,121)
    else if b.length<5+n then (En.zero,0,120)
    else if framed ((b.drop 5).take n)≠b.take (5+n) then (En.zero,0,110)
    else match parse ((b.drop 5).take n) with
      | some e=>(e,5+n,0)
      | none=>(En.zero,0,121)
theorem byteI_nat {a:Int} (h0:0<=a) (h1:a<256):((byteI a).toNat:Int)=a:=by
  unfold byteI
  rw [toNat_ofNat (by omega)]
  omega
theorem byteI_ofNat (c:UInt8):byteI (c.toNat:Int)=c:=by
  have h:=UInt8.toNat_lt c
  unfold byteI
  have:((c.toNat:Int) % 256).toNat=c.toNat:=by omega
  rw [this]
  simp
theorem rd1_ok (e:En) {n:Nat} (h:n<9223372036854775808) (l:By):rd1 (e,numB n++l)=some ({ e with epoch:=n },l):=by simp [rd1,take_num0 h]
theorem rd3_yes {e:En} (he:0<=e.id) {n:Nat} (h:n<9223372036854775808) (l:By):rd3 (e,numB n++l)=some ({ e with num:=n },l):=by simp [rd3,he,take_num0 h]
theorem rd3_no {e:En} (he:¬ 0<=e.id) (l:By):rd3 (e,l)=some (e,l):=by simp [rd3,he]
theorem rd4_yes {e:En} (he:e.kind=1/\0<=e.id) {n:Nat} (h:n<9223372036854775808) (l:By):rd4 (e,numB n++l)=some ({ e with seq:=n },l):=by simp [rd4,he,take_num0 h]
theorem rd4_no {e:En} (he:¬ (e.kind=1/\0<=e.id)) (l:By):rd4 (e,l)=some (e,l):=by unfold rd4;rw [if_neg he]
theorem rd5_yes {e:En} (he:e.kind=1) {v:Int} (h:zig v<9223372036854775808) (l:By):rd5 (e,numB (zig v)++l)=some ({ e with val:=v },l):=by simp [rd5,he,take_num0 h,unz_zig]
theorem rd5_no {e:En} (he:¬ e.kind=1) (l:By):rd5 (e,l)=some (e,l):=by unfold rd5;rw [if_neg he]
theorem parse_body {e:En} (hr:Right e):parse (body e)=some e:=by
  obtain ⟨h1,h2,h3,h4,h5,h6,h7,h8,h9,h10⟩:=id hr
  unfold in31 at *
  have k1:((byteI e.kind).toNat:Int)=e.kind:=byteI_nat (by omega) (by omega)
  have k2:((byteI (e.id+1)).toNat:Int)=e.id+1:=byteI_nat (by omega) (by omega)
  have hz:zig e.val<9223372036854775808:=by unfold zig;split<;>omega
  have i1:((e.epoch.toNat:Nat):Int)=e.epoch:=by omega
  have s0:rd0 (En.zero,body e)=some ({ En.zero with kind:=e.kind },numB e.epoch.toNat++(byteI (e.id+1) :: ((if 0<=e.id then numB e.num.toNat else [])++((if e.kind=1/\0<=e.id then numB e.seq.toNat else [])++(if e.kind=1 then numB (zig e.val) else []))))):=by
    simp [rd0,body,k1]
  obtain ⟨l2,hl2⟩:∃ l2:By,l2=((if 0<=e.id then numB e.num.toNat else [])++((if e.kind=1/\0<=e.id then numB e.seq.toNat else [])++(if e.kind=1 then numB (zig e.val) else []))):=⟨_,rfl⟩
  obtain ⟨l3,hl3⟩:∃ l3:By,l3=(if e.kind=1/\0<=e.id then numB e.seq.toNat else [])++(if e.kind=1 then numB (zig e.val) else []):=⟨_,rfl⟩
  obtain ⟨l4,hl4⟩:∃ l4:By,l4=(if e.kind=1 then numB (zig e.val) else []):=⟨_,rfl⟩
  rw [<- hl4] at hl3
  rw [<- hl4,<- hl3] at hl2
  rw [<- hl4,<- hl3,<- hl2] at s0
  have s1:rd1 ({ En.zero with kind:=e.kind },numB e.epoch.toNat++(byteI (e.id+1) :: l2))=some (⟨e.epoch,0,0,0,e.kind,0⟩,byteI (e.id+1) :: l2):=by
    rw [rd1_ok _ (by omega)];simp [En.zero,i1]
  have s2:rd2 (⟨e.epoch,0,0,0,e.kind,0⟩,byteI (e.id+1) :: l2)=some (⟨e.epoch,e.id,0,0,e.kind,0⟩,l2):=by
    simp only [rd2,k2];rw [show e.id+1 - 1=e.id by omega]
  have s3:rd3 (⟨e.epoch,e.id,0,0,e.kind,0⟩,l2)=some (⟨e.epoch,e.id,e.num,0,e.kind,0⟩,l3):=by
    by_cases hi:0<=e.id
    · have i3:((e.num.toNat:Nat):Int)=e.num:=by have:=h8 hi;omega
      rw [hl2,if_pos hi,rd3_yes (e:=⟨e.epoch,e.id,0,0,e.kind,0⟩) hi (by have:=h8 hi;omega)]
      simp [i3]
    rw [hl2,if_neg hi,rd3_no (e:=⟨e.epoch,e.id,0,0,e.kind,0⟩) hi]
    simp [(h7 (by omega)).1]
  have s4:rd4 (⟨e.epoch,e.id,e.num,0,e.kind,0⟩,l3)=some (⟨e.epoch,e.id,e.num,e.seq,e.kind,0⟩,l4):=by
    by_cases hi:e.kind=1/\0<=e.id
    · have i4:((e.seq.toNat:Nat):Int)=e.seq:=by omega
      rw [hl3,if_pos hi,rd4_yes (e:=⟨e.epoch,e.id,e.num,0,e.kind,0⟩) hi (by omega)]
      simp [i4]
    rw [hl3,if_neg hi,rd4_no (e:=⟨e.epoch,e.id,e.num,0,e.kind,0⟩) hi]
    have:e.seq=0:=by
      by_cases hk:e.kind=1
      · exact (h7 (by have:¬ 0<=e.id:=fun h=>hi ⟨hk,h⟩;omega)).2
      exact (h6 (by omega)).2.1
    simp [this]
  have s5:rd5 (⟨e.epoch,e.id,e.num,e.seq,e.kind,0⟩,l4)=some (e,[]):=by
    by_cases hk:e.kind=1
    · have:=rd5_yes (e:=⟨e.epoch,e.id,e.num,e.seq,e.kind,0⟩) hk hz []
      rw [List.append_nil] at this
      rw [hl4,if_pos hk,this]
    rw [hl4,if_neg hk,rd5_no (e:=⟨e.epoch,e.id,e.num,e.seq,e.kind,0⟩) hk]
    have:=(h6 (by omega)).2.2
    obtain ⟨x1,x2,x3,x4,x5,x6⟩:=e
    simp only at this
    rw [this]
  unfold parse
  rw [s0,Option.bind_some,s1,Option.bind_some,s2,Option.bind_some,s3,Option.bind_some,s4,Option.bind_some,s5]
  simp only [if_pos hr]
theorem body_parse {b:By} {e:En} (h:parse b=some e):b=body e/\Right e:=by
  unfold parse at h
  cases b with
  | nil=>simp [rd0] at h
  | cons c l=>
    have a0:rd0 (En.zero,c :: l)=some ({ En.zero with kind:=(c.toNat:Int) },l):=rfl
    rw [a0,Option.bind_some] at h
    cases t1:takeB 0 0 l with
    | none=>simp [rd1,t1] at h
    | some p1=>
    obtain ⟨n1,l1⟩:=p1
    obtain ⟨e1,b1⟩:=num_take0 t1
    have a1:rd1 ({ En.zero with kind:=(c.toNat:Int) },l)=some ({ En.zero with kind:=(c.toNat:Int),epoch:=n1 },l1):=by simp [rd1,t1]
    rw [a1,Option.bind_some] at h
    cases l1 with
    | nil=>simp [rd2] at h
    | cons d l2=>
    have a2:rd2 ({ En.zero with kind:=(c.toNat:Int),epoch:=n1 },d :: l2)=some ({ En.zero with kind:=(c.toNat:Int),epoch:=n1,id:=(d.toNat:Int) - 1 },l2):=rfl
    rw [a2,Option.bind_some] at h
    obtain ⟨x,hx⟩:∃ x:En,x={ En.zero with kind:=(c.toNat:Int),epoch:=n1,id:=(d.toNat:Int) - 1 }:=⟨_,rfl⟩
    rw [<- hx] at h
    have hxk:x.kind=c.toNat:=by rw [hx]
    have hxi:x.id=(d.toNat:Int) - 1:=by rw [hx]
    obtain ⟨n3,l3,a3,e3,h3⟩:∃ (n3:Nat) (l3:By),rd3 (x,l2)=some ({ x with num:=n3 },l3)/\l2=(if 0<=x.id then numB n3 else [])++l3/\(¬ 0<=x.id->n3=0):=by
      by_cases hi:0<=x.id
      · cases t:takeB 0 0 l2 with
        | none=>simp [rd3,hi,t] at h
        | some p=>exact ⟨p.1,p.2,by simp [rd3,hi,t],by rw [if_pos hi];exact (num_take0 (n:=p.1) (r:=p.2) t).1,fun h=>absurd hi h⟩
      refine ⟨0,l2,?_,by rw [if_neg hi];rfl,fun _=>rfl⟩
      rw [rd3_no hi,hx];rfl
    rw [a3,Option.bind_some] at h
    obtain ⟨n4,l4,a4,e4,h4⟩:∃ (n4:Nat) (l4:By),rd4 ({ x with num:=n3 },l3)=some ({ x with num:=n3,seq:=n4 },l4)/\l3=(if x.kind=1/\0<=x.id then numB n4 else [])++l4/\(¬ (x.kind=1/\0<=x.id)->n4=0):=by
      by_cases hi:x.kind=1/\0<=x.id
      · cases t:takeB 0 0 l3 with
        | none=>simp [rd4,hi,t] at h
        | some p=>exact ⟨p.1,p.2,by simp [rd4,hi,t],by rw [if_pos hi];exact (num_take0 (n:=p.1) (r:=p.2) t).1,fun h=>absurd hi h⟩
      refine ⟨0,l3,?_,by rw [if_neg hi];rfl,fun _=>rfl⟩
      refine (rd4_no (e:={ x with num:=n3 }) hi l3).trans ?_;rw [hx];rfl
    rw [a4,Option.bind_some] at h
    obtain ⟨v,l5,a5,e5,h5⟩:∃ (v:Int) (l5:By),rd5 ({ x with num:=n3,seq:=n4 },l4)=some ({ x with num:=n3,seq:=n4,val:=v },l5)/\l4=(if x.kind=1 then numB (zig v) else [])++l5/\(¬ x.kind=1->v=0):=by
      by_cases hi:x.kind=1
      · cases t:takeB 0 0 l4 with
        | none=>simp [rd5,hi,t] at h
        | some p=>exact ⟨unz p.1,p.2,by simp [rd5,hi,t],by rw [if_pos hi,zig_unz];exact (num_take0 (n:=p.1) (r:=p.2) t).1,fun h=>absurd hi h⟩
      refine ⟨0,l4,?_,by rw [if_neg hi];rfl,fun _=>rfl⟩
      refine (rd5_no (e:={ x with num:=n3,seq:=n4 }) hi l4).trans ?_;rw [hx];rfl
    rw [a5] at h
    cases l5 with
    | cons _ _=>simp at h
    | nil=>
    simp only at h
    by_cases hr:Right { x with num:=n3,seq:=n4,val:=v }
    · rw [if_pos hr] at h
      have he:=Option.some.inj h
      subst he
      refine ⟨?_,hr⟩
      unfold body
      simp only
      rw [e1,e3,e4,e5,hxk,byteI_ofNat,hxi,show (d.toNat:Int) - 1+1=d.toNat by omega,byteI_ofNat]
      have hxe:x.epoch.toNat=n1:=by rw [hx];simp
      rw [hxe,<- hxi,<- hxk]
      simp
    rw [if_neg hr] at h;cases h
theorem le4_len (w:W32):(le4 w).length=4:=rfl
theorem framed_len (b:By):(framed b).length=5+b.length:=by simp [framed,le4_len];omega
theorem numB_len:∀ (k n:Nat),n<128 ^ k->0<k->(numB n).length<=k/\0<(numB n).length
  | 0,_,_,h=>absurd h (Nat.lt_irrefl _)
  | k+1,n,hn,_=>by
    by_cases h:n<128
    · rw [numB_small h];simp
    rw [numB_big h]
    rw [Nat.pow_succ] at hn
    have hk:0<k:=by
      rcases Nat.eq_zero_or_pos k with e | e
      · subst e;simp at hn;omega
      exact e
    have:=numB_len k (n / 128) (by omega) hk
    simp;omega
theorem body_len {e:En} (h:Right e):4<=(body e).length/\(body e).length<=35:=by
  obtain ⟨h1,h2,h3,h4,h5,h6,h7,h8,h9,h10⟩:=h
  unfold in31 at *
  have hz:zig e.val<128 ^ 5:=by unfold zig;split<;>omega
  have l1:=numB_len 5 e.epoch.toNat (by omega) (by omega)
  have l2:=numB_len 5 e.seq.toNat (by omega) (by omega)
  have l3:=numB_len 5 (zig e.val) hz (by omega)
  unfold body
  by_cases hi:0<=e.id
  · have l4:=numB_len 5 e.num.toNat (by have:=h8 hi;omega) (by omega)
    by_cases hk:e.kind=1
    · simp [hi,hk];omega
    simp [hi,hk];omega
  have hk:e.kind=1:=by
    have:¬ 1<e.kind:=fun h=>hi (h6 h).1
    omega
  simp [hi,hk];omega
theorem frame_len {e:En} (h:Right e):9<=(frame e).length/\(frame e).length<=40:=by
  have:=body_len h
  unfold frame
  rw [framed_len]
  omega
theorem framed_get4 {b r:By} (h:b.length<256):((framed b++r).getD 4 0).toNat=b.length:=by
  have e:(framed b++r).getD 4 0=UInt8.ofNat b.length:=by simp [framed,le4,List.getD_eq_getElem?_getD]
  rw [e,toNat_ofNat h]
theorem read_frame {e:En} (h:Right e) (r:By):readF (frame e++r)=(e,(frame e).length,0):=by
  have hb:=body_len h
  have hl:(frame e).length=5+(body e).length:=framed_len _
  have h4:((frame e++r).getD 4 0).toNat=(body e).length:=framed_get4 (by omega)
  have hd:(frame e++r).drop 5=body e++r:=by unfold frame framed;simp [le4]
  have ht:(frame e++r).take (5+(body e).length)=frame e:=by rw [<- hl,List.take_left]
  have ht2:((frame e++r).drop 5).take (body e).length=body e:=by rw [hd,List.take_left]
  unfold readF
  simp only [h4,ht,ht2]
  rw [if_neg (by simp;omega),if_neg (by omega),if_neg (by simp;omega),if_neg (fun h=>h rfl),parse_body h,hl]
theorem read_ok {b:By} {e:En} {n:Nat} (h:readF b=(e,n,0)):Right e/\n=(frame e).length/\b=frame e++b.drop n:=by
  unfold readF at h
  simp only at h
  by_cases c1:b.length<5
  · rw [if_pos c1] at h;simp at h
  rw [if_neg c1] at h
  by_cases c2:(b.getD 4 0).toNat=0\/35<(b.getD 4 0).toNat
  · rw [if_pos c2] at h;simp at h
  rw [if_neg c2] at h
  by_cases c3:b.length<5+(b.getD 4 0).toNat
  · rw [if_pos c3] at h;simp at h
  rw [if_neg c3] at h
  by_cases c4:framed ((b.drop 5).take (b.getD 4 0).toNat)≠b.take (5+(b.getD 4 0).toNat)
  · rw [if_pos c4] at h;simp at h
  rw [if_neg c4] at h
  have c4':=Classical.not_not.1 c4
  cases hp:parse ((b.drop 5).take (b.getD 4 0).toNat) with
  | none=>rw [hp] at h;simp at h
  | some x=>
    rw [hp] at h
    simp only [Prod.mk.injEq,and_true] at h
    obtain ⟨rfl,rfl⟩:=h
    obtain ⟨hb,hr⟩:=body_parse hp
    have hf:frame x=b.take (5+(b.getD 4 0).toNat):=by unfold frame;rw [<- hb];exact c4'
    refine ⟨hr,?_,?_⟩
    · rw [hf,List.length_take];omega
    rw [hf,List.take_append_drop]
def allF:Nat->By->List En×Nat×Int
  | 0,_=>([],0,0)
  | k+1,b=>
    if b=[] then ([],0,0)
    else match readF b with
      | (e,n,no)=>if no=0 then ((e :: (allF k (b.drop n)).1),n+(allF k (b.drop n)).2.1,(allF k (b.drop n)).2.2) else ([],0,no)
def allB (b:By):List En:=(allF b.length b).1
def frames (l:List En):By:=l.flatMap frame
theorem allF_fuel:∀ (k:Nat) (b:By),b.length<=k->allF k b=allF b.length b:=by
  intro k
  induction k using Nat.strongRecOn with
  | _ k ih=>
    intro b hb
    cases k with
    | zero=>
      have:b=[]:=List.eq_nil_of_length_eq_zero (by omega)
      subst this;rfl
    | succ k=>
      by_cases h0:b=[]
      · subst h0;rfl
      have hpos:0<b.length:=List.length_pos_iff.2 h0
      obtain ⟨m,hm⟩:∃ m,b.length=m+1:=⟨b.length - 1,by omega⟩
      rw [hm]
      simp only [allF,h0,if_false]
      rcases hr:readF b with ⟨e,n,no⟩
      simp only
      by_cases hn:no=0
      · subst hn
        obtain ⟨h1,h2,h3⟩:=read_ok hr
        have hf:=frame_len h1
        have hd:(b.drop n).length=b.length - n:=List.length_drop
        have hle:n<=b.length:=by
          have:=congrArg List.length h3
          simp at this;omega
        rw [ih k (by omega) _ (by omega)]
        rcases Nat.lt_or_ge m k with hmk | hmk
        · rw [ih m (by omega) _ (by omega)]
        have:m=k:=by omega
        subst this
        rw [ih m (by omega) _ (by omega)]
      simp only [if_neg hn]
theorem allB_nil:allB []=[]:=rfl
theorem allB_cons {b:By} {e:En} {n:Nat} (h:readF b=(e,n,0)):allB b=e :: allB (b.drop n):=by
  obtain ⟨h1,h2,h3⟩:=read_ok h
  have hf:=frame_len h1
  have hle:n<=b.length:=by
    have:=congrArg List.length h3
    simp at this;omega
  obtain ⟨m,hm⟩:∃ m,b.length=m+1:=⟨b.length - 1,by omega⟩
  have h0:b≠[]:=fun e=>by rw [e] at hm;simp at hm
  have hd:(b.drop n).length=b.length - n:=List.length_drop
  unfold allB
  rw [hm]
  simp only [allF,h0,if_false,h,if_true]
  rw [allF_fuel m _ (by omega)]
theorem allB_bad {b:By} {e:En} {n:Nat} {no:Int} (h:readF b=(e,n,no)) (hn:no≠0):allB b=[]:=by
  unfold allB
  cases hb:b.length with
  | zero=>rfl
  | succ m=>
    have h0:b≠[]:=fun e=>by rw [e] at hb;simp at hb
    simp only [allF,h0,if_false,h,if_neg hn]
theorem allB_frames {l:List En} (h:∀ e∈l,Right e) (r:By):allB (frames l++r)=l++allB r:=by
  induction l with
  | nil=>simp [frames]
  | cons e l ih=>
    have e1:frames (e :: l)++r=frame e++(frames l++r):=by simp [frames]
    have h1:=read_frame (h e List.mem_cons_self) (frames l++r)
    rw [e1,allB_cons h1,List.drop_left,ih (fun x hx=>h x (List.mem_cons_of_mem _ hx))]
    rfl
theorem allB_spec (b:By):(∀ e∈allB b,Right e)/\∃ r,b=frames (allB b)++r/\allB r=[]:=by
  have key:∀ (k:Nat) (b:By),b.length<=k->(∀ e∈allB b,Right e)/\∃ r,b=frames (allB b)++r/\allB r=[]:=by
    intro k
    induction k with
    | zero=>
      intro b hb
      have:b=[]:=List.eq_nil_of_length_eq_zero (by omega)
      subst this
      exact ⟨by simp [allB_nil],[],by simp [allB_nil,frames],rfl⟩
    | succ k ih=>
      intro b hb
      rcases hr:readF b with ⟨e,n,no⟩
      by_cases hn:no=0
      · subst hn
        obtain ⟨h1,h2,h3⟩:=read_ok hr
        have hf:=frame_len h1
        have hd:(b.drop n).length=b.length - n:=List.length_drop
        obtain ⟨i1,r,i2,i3⟩:=ih (b.drop n) (by
          have hle:n<=b.length:=by
            have:=congrArg List.length h3
            simp at this;omega
          omega)
        rw [allB_cons hr]
        refine ⟨fun x hx=>?_,r,?_,i3⟩
        · rcases List.mem_cons.1 hx with rfl | hx
          · exact h1
          exact i1 x hx
        conv=>lhs;rw [h3,i2]
        simp [frames]
      rw [allB_bad hr hn]
      exact ⟨by simp,b,by simp [frames],allB_bad hr hn⟩
  exact key _ b (Nat.le_refl _)
theorem allB_torn {e:En} (h:Right e) {t:Nat} (ht:t<(frame e).length):allB ((frame e).take t)=[]:=by
  have hb:=body_len h
  have hl:(frame e).length=5+(body e).length:=framed_len _
  have hlen:((frame e).take t).length=t:=by rw [List.length_take];omega
  have hbad:∃ no,readF ((frame e).take t)=(En.zero,0,no)/\no≠0:=by
    unfold readF
    simp only [hlen]
    by_cases c1:t<5
    · rw [if_pos c1];exact ⟨_,rfl,by decide⟩
    have h4:(((frame e).take t).getD 4 0).toNat=(body e).length:=by
      have e1:((frame e).take t).getD 4 0=(frame e).getD 4 0:=by
        rw [List.getD_eq_getElem?_getD,List.getElem?_take_of_lt (by omega),<- List.getD_eq_getElem?_getD]
      have:=framed_get4 (b:=body e) (r:=[]) (by omega)
      rw [List.append_nil] at this
      rw [e1];exact this
    rw [if_neg c1,h4,if_neg (by omega),if_pos (by omega)]
    exact ⟨_,rfl,by decide⟩
  obtain ⟨no,h1,h2⟩:=hbad
  exact allB_bad h1 h2
end Go.Wst.Sg
namespace Go.Wst
section
variable {P:Program} {r:Option Nat} {N:Nat} {S:Nat->Prop} {τ:Tau} {w:World} {ty:TypeId}
theorem v_xor {k:IntKind} {a b:Int} {t t':TypeId} {x y:Operand} [hx:EvO N τ x (.int k a)] [hy:EvO N τ y (.int k b)]:Val P r N S (.binOp .xor t x y t') ty τ w (.int k (k.wrap (BitVec.ofInt k.bits a ^^^ BitVec.ofInt k.bits b).toNat)):=⟨fun _=>nofun,fun W _=>by
  simp [execOp,hx.eq,hy.eq,eqGuard,binOp,Op.intBits]⟩
theorem v_or {k:IntKind} {a b:Int} {t t':TypeId} {x y:Operand} [hx:EvO N τ x (.int k a)] [hy:EvO N τ y (.int k b)]:Val P r N S (.binOp .or t x y t') ty τ w (.int k (k.wrap (BitVec.ofInt k.bits a ||| BitVec.ofInt k.bits b).toNat)):=⟨fun _=>nofun,fun W _=>by
  simp [execOp,hx.eq,hy.eq,eqGuard,binOp,Op.intBits]⟩
theorem v_shl {k k':IntKind} {a b:Int} {t t':TypeId} {x y:Operand} [hx:EvO N τ x (.int k a)] [hy:EvO N τ y (.int k' b)] (h:0<=b):Val P r N S (.binOp .shl t x y t') ty τ w (.int k (k.wrap (a*2 ^ min b.toNat k.bits))):=⟨fun _=>nofun,fun W _=>by
  have hb:¬ b<0:=by omega
  simp [execOp,hx.eq,hy.eq,eqGuard,binOp,Op.shift,hb]⟩
theorem v_compl {k:IntKind} {a:Int} {t:TypeId} {x:Operand} [hx:EvO N τ x (.int k a)]:Val P r N S (.unOp .xor t x) ty τ w (.int k (k.wrap (BitVec.ofInt k.bits (if k.signed then -1 else k.max) ^^^ BitVec.ofInt k.bits a).toNat)):=⟨fun _=>nofun,fun W _=>by
  simp [execOp,hx.eq,Op.unary,Op.intBits]⟩
theorem v_indexArrK {x y:Operand} {t e:TypeId} {sz bytes len:Nat} {z:Value} {b:Nat} {k:IntKind} {i:Int} (m:Nat) [hx:EvO N τ x (.pointer (some ⟨b,0,none⟩))] [hy:EvO N τ y (.int k i)] [hu:Und P t (.array len e)] [hi:Inf P e sz bytes z] (hk:i=(m:Int)) (hn:m<len) :
    Val P r N S (.indexAddr t x y) ty τ w (padd (some ⟨b,0,none⟩) (m*sz)):=⟨fun _=>nofun,fun W _=>by
  obtain ⟨ii,h1,h2,h3,h4⟩:=hi.ex
  subst hk;subst h2
  simp [execOp,hx.eq,hy.eq,Instr.indexAt,asIntOf,run_underlying hu.eq,hn,sizeOf,typeInfo,h1,padd,Instr.sureAddr]⟩
theorem v_buildAM {t e:TypeId} {n:Nat} {parts:List (Nat×Operand)} {vs:List (Nat×Value)} {sz bytes m eb:Nat} {z ze:Value} {zc cs:Array Value} [hv:EvP N τ parts vs] [hu:Und P t (.array n e)] [hi:Inf P t sz bytes z] [he:Inf P e m eb ze] [hz:Cells z zc] (hf:Instr.fill (fun i=>some (i*m,m)) zc vs=some cs) :
    Val P r N S (.build t parts.toArray) ty τ w (.agg cs):=⟨fun _=>nofun,fun W _=>by
  obtain ⟨i,h3,h4,h5,h6⟩:=hi.ex
  obtain ⟨j,g3,g4,g5,g6⟩:=he.ex
  have hs:(sizeOf e:Sem Nat).run P W=.ok m W:=by simp [sizeOf,typeInfo,program,Sem.run,g3,g4]
  simp only [execOp,Instr.build,Sem.run_bind,zeroValue,typeInfo,program,Sem.run,h3,h6,Sem.run_pure,Result.andThen_ok,run_underlying hu.eq,hz.eq]
  have e1:(parts.toArray.map fun (x:Nat×Operand)=>(x.1,evO N τ x.2)).toList=vs:=by simp [hv.eq]
  simp only [hs,e1,hf,Sem.run_pure,Result.andThen_ok]⟩
theorem v_indexGM {x y:Operand} {t e:TypeId} {n m bytes:Nat} {z:Value} {i:Int} {vs us:List Value} (k:Nat) [hx:EvO N τ x (.agg vs.toArray)] [hy:EvO N τ y (.int .i64 i)] [hu:Und P t (.array n e)] [ho:Many P e m] [hi:Inf P e m bytes z] (hk:i=(k:Int)) (hn:k<n) (hv:(vs.drop (k*m)).take m=us/\k*m+m<=vs.length):Val P r N S (.index t x y) ty τ w (.agg us.toArray):=⟨fun _=>nofun,fun W _=>by
  obtain ⟨ii,h1,h2,h3,h4⟩:=hi.ex
  subst hk
  haveI:CsSub vs (k*m) m us:=⟨hv⟩
  have h5:=(partv_many (P:=P) e vs us (k*m) m).eq W
  have h6:(0:Int)<=(k:Int)/\(k:Int)<(n:Int):=by omega
  have h7:¬ n<=k:=by omega
  simp [execOp,hx.eq,hy.eq,Instr.index,asIntOf,run_underlying hu.eq,h6,hn,h7,sizeOf,typeInfo,program,Sem.run,h1,h2,h5]⟩
end
def CallVP (P:Program) (g:Value) (vs:List Value) (w:World) (R:Value->World->Prop) (RP:List PanicEntry->World->Prop):Prop:=
  ∃ f a c,g=.func (.func f) a c/\Fun P f/\RetP P f (a++vs.toArray++c) w R RP
theorem CallVP.of_ret {P:Program} {f:FuncId} {a c vs asx as2:List Value} {w:World} {R:Value->World->Prop} {RP:List PanicEntry->World->Prop} [hf:Fun P f] [h1:App a vs asx] [h2:App asx c as2] (h:RetP P f as2.toArray w R RP):CallVP P (.func (.func f) a.toArray c.toArray) vs w R RP:=
  ⟨f,_,_,rfl,hf,by
    have e:a.toArray++vs.toArray++c.toArray=as2.toArray:=by rw [<- h2.eq,<- h1.eq];simp
    rw [e];exact h⟩
section
variable {P:Program} {r:Option Nat} {N:Nat} {S T U:Nat->Prop} {Q:Post} {τ:Tau} {ds:List Deferred} {w:World} {ty:TypeId} {ops:Array Oper} {rest:List Oper} {pos:String} {aft:Array Edge} {d:Nat} {v:Value} {op:Op}
theorem OpE_callvP {g:Operand} {args:List Operand} {at_:Array TypeId} {gv:Value} {vs:List Value} {R:Value->World->Prop} {RP:List PanicEntry->World->Prop} {K:Tau->List Deferred->World->Prop} {dst:Option Nat}
    [hg:EvO N τ g gv] [hv:EvL N τ args vs] (hc:CallVP P gv vs w R RP) (hp:∀ ch w',RP ch w'->Q (.panic ch) τ ds w') (h:∀ v w',R v w'->K (updO τ dst v) ds w'):OpE P r N ops ⟨dst,.call { callee:=.value g,args:=args.toArray,argTypes:=at_ },ty,pos,aft,none⟩ Q τ ds w K:=by
  have e1:(args.toArray.map (evO N τ))=vs.toArray:=by simp [hv.eq]
  unfold OpE
  rw [if_pos (by rfl),semAt_op _ (fun c h=>by cases h)]
  obtain ⟨f,a,c,rfl,hf,h3⟩:=hc
  obtain ⟨fn,cc,hfn,hnm,hb⟩:=hf.ex
  have hr:(execOp (evO N τ) ⟨none,.call { callee:=.value g,args:=args.toArray,argTypes:=at_ },ty,"",#[],none⟩).run P w=.ok (.enter f (a++vs.toArray++c)) w:=by
    simp only [execOp,resolve,Sem.run_bind,hg.eq,Deferred.ofValue,e1,invoke,callFunc,program,Sem.run,hfn,hnm,hb,Sem.run_pure,Result.andThen_ok,beq_iff_eq,if_false,Option.isNone_some,Bool.false_eq_true]
  rw [hr]
  exact Calls.mono h3 fun e w'' he=>he.imp (fun ⟨v,he,hR⟩=>⟨v,he,h v w'' hR⟩) (fun ⟨ch,he,hR⟩=>⟨ch,he,hp ch w'' hR⟩)
theorem xl_callvP {g:Operand} {args:List Operand} {at_:Array TypeId} {gv:Value} {vs:List Value} {R:Value->World->Prop} {RP:List PanicEntry->World->Prop} [hg:EvO N τ g gv] [hv:EvL N τ args vs]
    (hc:CallVP P gv vs w R RP) (hp:∀ ch w',RP ch w'->Q (.panic ch) τ ds w') (h:∀ v w',R v w'->XL P r N ops Q rest (upd τ d v) ds w'):XL P r N ops Q (⟨some d,.call { callee:=.value g,args:=args.toArray,argTypes:=at_ },ty,pos,aft,none⟩ :: rest) τ ds w:=OpE_callvP hc hp h
end
namespace Sg
theorem wrapW (x:W32):IntKind.u32.wrap (x.toNat:Int)=(x.toNat:Int):=by
  have h:=x.isLt
  simp [IntKind.wrap,IntKind.signed,IntKind.bits]
  omega
theorem ofW (x:W32):BitVec.ofInt 32 (x.toNat:Int)=x:=by
  rw [BitVec.ofInt_natCast]
  simp
theorem xorW (a b:W32):IntKind.u32.wrap ((BitVec.ofInt IntKind.u32.bits (a.toNat:Int) ^^^ BitVec.ofInt IntKind.u32.bits (b.toNat:Int)).toNat:Int)=((a ^^^ b).toNat:Int):=by
  show IntKind.u32.wrap ((BitVec.ofInt 32 (a.toNat:Int) ^^^ BitVec.ofInt 32 (b.toNat:Int)).toNat:Int)=_
  rw [ofW,ofW,wrapW]
theorem andW (a b:W32):IntKind.u32.wrap ((BitVec.ofInt IntKind.u32.bits (a.toNat:Int) &&& BitVec.ofInt IntKind.u32.bits (b.toNat:Int)).toNat:Int)=((a &&& b).toNat:Int):=by
  show IntKind.u32.wrap ((BitVec.ofInt 32 (a.toNat:Int) &&& BitVec.ofInt 32 (b.toNat:Int)).toNat:Int)=_
  rw [ofW,ofW,wrapW]
theorem shrW (a:W32) (n:Nat) (h:n<=32):((a.toNat:Int)).fdiv (2 ^ min (n:Int).toNat IntKind.u32.bits)=((a >>> n).toNat:Int):=by
  have e:min (n:Int).toNat IntKind.u32.bits=n:=by show min (n:Int).toNat 32=n;omega
  rw [e,BitVec.toNat_ushiftRight,Nat.shiftRight_eq_div_pow]
  have h2:((2:Int) ^ n)=((2 ^ n:Nat):Int):=by simp
  rw [h2,Int.fdiv_eq_ediv_of_nonneg _ (by exact Int.natCast_nonneg _)]
  exact (Int.natCast_ediv _ _).symm
theorem complW (a:W32):IntKind.u32.wrap ((BitVec.ofInt IntKind.u32.bits (if IntKind.u32.signed=true then -1 else IntKind.u32.max) ^^^ BitVec.ofInt IntKind.u32.bits (a.toNat:Int)).toNat:Int)=((~~~ a).toNat:Int):=by
  show IntKind.u32.wrap ((BitVec.ofInt 32 4294967295 ^^^ BitVec.ofInt 32 (a.toNat:Int)).toNat:Int)=_
  rw [ofW]
  have e:BitVec.ofInt 32 4294967295=BitVec.allOnes 32:=by decide
  rw [e,BitVec.allOnes_xor,wrapW]
theorem bit0 (x:W32):x.getLsbD 0=decide (x.toNat % 2=1):=by
  show x.toNat.testBit 0=_
  rw [Nat.testBit_zero]
theorem and1 (x:W32):((x &&& 1#32).toNat:Int)=((x.toNat % 2:Nat):Int):=by
  rw [BitVec.toNat_and]
  have:=Nat.and_two_pow_sub_one_eq_mod x.toNat 1
  simpa using this
def tabC (n:Nat):List Value:=(List.range 256).map (fun i=>.int .u32 ((if i<n then (bit8 (BitVec.ofNat 32 i)).toNat else 0:Nat):Int))
theorem tabC_len (n:Nat):(tabC n).length=256:=by simp [tabC]
theorem tabC_get {n i:Nat} (h:i<256):(tabC n)[i]?=some (.int .u32 ((if i<n then (bit8 (BitVec.ofNat 32 i)).toNat else 0:Nat):Int)):=by
  simp [tabC,h]
theorem tabC_set {n:Nat} (h:n<256):(tabC n).set n (.int .u32 ((bit8 (BitVec.ofNat 32 n)).toNat:Int))=tabC (n+1):=by
  apply List.ext_getElem?
  intro i
  rw [List.getElem?_set]
  by_cases hi:n=i
  · subst hi
    rw [if_pos rfl,if_pos (by rw [tabC_len];exact h),tabC_get h,if_pos (Nat.lt_succ_self n)]
  rw [if_neg hi]
  rcases Nat.lt_or_ge i 256 with h2 | h2
  · rw [tabC_get h2,tabC_get h2]
    by_cases h3:i<n
    · rw [if_pos h3,if_pos (by omega)]
    rw [if_neg h3,if_neg (by omega)]
  rw [List.getElem?_eq_none (by rw [tabC_len];exact h2),List.getElem?_eq_none (by rw [tabC_len];exact h2)]
theorem tabC_zero:tabC 0=List.replicate 256 (.int .u32 0):=by
  apply List.ext_getElem?
  intro i
  rcases Nat.lt_or_ge i 256 with h | h
  · rw [tabC_get h,List.getElem?_replicate,if_pos h,if_neg (Nat.not_lt_zero i)];rfl
  rw [List.getElem?_eq_none (by rw [tabC_len];exact h),List.getElem?_eq_none (by rw [List.length_replicate];exact h)]
theorem tabC_one (n:Nat):∀ u∈tabC n,u.oneCell'=true:=by
  intro u hu
  obtain ⟨i,_,rfl⟩:=List.mem_map.1 hu
  rfl
instance cell1L_tab (n:Nat):Cell1L (tabC n):=⟨tabC_one n⟩
theorem setMany_all:∀ (vs:List Value) (pre post:List Value),post.length=vs.length->setMany (pre++post).toArray pre.length vs=(pre++vs).toArray
  | [],pre,post,h=>by
    have:post=[]:=List.eq_nil_of_length_eq_zero h
    subst this;rfl
  | v :: vs,pre,[],h=>by simp at h
  | v :: vs,pre,p :: post,h=>by
    have ih:=setMany_all vs (pre++[v]) post (by simpa using h)
    have e:(pre++p :: post).toArray.setIfInBounds pre.length v=(pre++[v]++post).toArray:=by simp
    show setMany ((pre++p :: post).toArray.setIfInBounds pre.length v) (pre.length+1) vs=_
    rw [e]
    have e2:pre.length+1=(pre++[v]).length:=by simp
    rw [e2,ih]
    simp
theorem csput_whole {cs:Array Value} {vs:List Value} (h:cs.size=vs.length):CsPut cs 0 vs vs.toArray:=⟨by
  have:=setMany_all vs [] cs.toList (by simpa using h)
  simpa using this,by omega⟩
instance cssub_tab (n:Nat):CsSub (tabC n) 0 256 (tabC n):=⟨by rw [List.drop_zero,List.take_of_length_le (by rw [tabC_len];exact Nat.le_refl _)],by rw [tabC_len];exact Nat.le_refl _⟩
instance csput_tab (n m:Nat):CsPut (tabC m).toArray 0 (tabC n) (tabC n).toArray:=⟨by
  have:=setMany_all (tabC n) [] (tabC m) (by rw [tabC_len,tabC_len])
  simpa using this,by rw [tabC_len];simp [tabC_len]⟩
instance lenL_tab (n:Nat):LenL (tabC n) 256:=⟨tabC_len n⟩
theorem low_idx (w:W32) (c:UInt8):IntKind.u8.wrap ((BitVec.ofInt IntKind.u8.bits (IntKind.u8.wrap (w.toNat:Int)) ^^^ BitVec.ofInt IntKind.u8.bits (c.toNat:Int)).toNat:Int)=((((w ^^^ byteW c) &&& 255#32).toNat:Nat):Int)/\((w ^^^ byteW c) &&& 255#32).toNat<256/\BitVec.ofNat 32 ((w ^^^ byteW c) &&& 255#32).toNat=(w ^^^ byteW c) &&& 255#32:=by
  have hc:=UInt8.toNat_lt c
  have e255:(255#32).toNat=2 ^ 8 - 1:=by decide
  have hand:((w ^^^ byteW c) &&& 255#32).toNat=(w.toNat ^^^ c.toNat) % 256:=by
    rw [BitVec.toNat_and,e255,Nat.and_two_pow_sub_one_eq_mod,BitVec.toNat_xor]
    congr 2
  refine ⟨?_,?_,by simp⟩
  · show IntKind.u8.wrap ((BitVec.ofInt 8 (IntKind.u8.wrap (w.toNat:Int)) ^^^ BitVec.ofInt 8 (c.toNat:Int)).toNat:Int)=_
    have e1:IntKind.u8.wrap (w.toNat:Int)=((w.toNat % 256:Nat):Int):=by
      simp [IntKind.wrap,IntKind.signed,IntKind.bits]
    rw [e1,BitVec.ofInt_natCast,BitVec.ofInt_natCast,BitVec.toNat_xor,BitVec.toNat_ofNat,BitVec.toNat_ofNat,hand]
    have hx:(w.toNat % 256 % 2 ^ 8) ^^^ (c.toNat % 2 ^ 8)=(w.toNat ^^^ c.toNat) % 256:=by
      rw [show (256:Nat)=2 ^ 8 from rfl,Nat.xor_mod_two_pow,Nat.mod_mod]
    rw [hx]
    have:(w.toNat ^^^ c.toNat) % 256<256:=Nat.mod_lt _ (by omega)
    simp [IntKind.wrap,IntKind.signed,IntKind.bits]
    try omega
  rw [hand];exact Nat.mod_lt _ (by omega)
end Sg
end Go.Wst
set_option maxRecDepth 100000
set_option synthInstance.maxSize 100000
set_option synthInstance.maxHeartbeats 400000
namespace Go.Proofs.YtigmfcgeljjgnaaGreat
open Go.Wst
open Go.Wst.Dm Go.Wst.Sg
theorem bits_le (x:W32) (k:Nat):bitsN x (k+1)=if (bitsN x k).toNat % 2=1 then (bitsN x k >>> 1) ^^^ poly else bitsN x k >>> 1:=by
 rw [bits_succ]
 unfold bit1
 rw [bit0]
 by_cases h:(bitsN x k).toNat % 2=1<;>simp [h]
theorem bits1_ok (x:W32) (w:World):Ret Tryz.prog 124 #[.int .u32 (x.toNat:Int)] w (fun v w'=>v=.int .u32 ((bit8 x).toNat:Int)/\Lk w' w NoB):=by
 refine ret_of_x (N:=16) (l:=[.int .u32 (x.toNat:Int)]) Tryz.func124 rfl rfl (Nat.le_of_ble_eq_true rfl) ?_
 refine xq (xz ?_)
 refine x_seq (xq (xm (xl_nil ?_)))
 refine x_block ?_
 refine x_loop (fun t τ ds w'=>ds=[]/\∃ k:Nat,t=8 - k/\k<=8/\Ev τ 0 (.int .u32 ((bitsN x k).toNat:Int))/\Ev τ 4 (.int .i64 (k:Int))/\Lk w' w NoB) (8) ?start ?round
 case start=>
  exact ⟨rfl,0,rfl,Nat.zero_le _,ii,evc,lkc⟩
 case round=>
  intro m τ1 ds1 w1 hI
  obtain ⟨rfl,k,rfl,hk,e0,e4,lk⟩:=hI
  refine xq (xl_v v_lss (xl_nil ?_))
  refine x_seq ?_
  refine x_if (fun c1=>?_) (fun c1=>?_)
  ·refine x_skip (x_seq (x_block (xq (xm ?_))))
   refine xl_v (v_congr (u:=.int .u32 (((bitsN x k).toNat % 2:Nat):Int)) v_and (congrArg (Value.int .u32) ((andW (bitsN x k) 1#32).trans (and1 _)))) ?_
   refine xz ?_
   refine xq (xm ?_)
   refine xl_v (v_congr (u:=.int .u32 ((bitsN x k >>> 1).toNat:Int)) (v_shr (by omega)) (congrArg (Value.int .u32) (shrW (bitsN x k) 1 (by omega)))) ?_
   refine xz ?_
   refine xq (xm (xl_v v_eql (xl_nil ?_)))
   refine x_if (fun c2=>?_) (fun c2=>?_)
   ·refine x_regionL (xm ?_)
    refine xl_v (v_congr (u:=.int .u32 (((bitsN x k >>> 1) ^^^ poly).toNat:Int)) v_xor (congrArg (Value.int .u32) (xorW (bitsN x k >>> 1) poly))) ?_
    refine xz ?_
    refine x_regionL ?_
    refine xl_v (v_add (by omega)) ?_
    refine xm (xl_nil ?_)
    refine ⟨_,?_,rfl,k+1,rfl,by omega,?_,evc,lkc⟩
    ·omega
    ·rw [bits_le]
     first
      | (rw [if_pos (by omega)];infer_instance)
      | (rw [if_neg (by omega)];infer_instance)
   refine x_skip (x_regionL ?_)
   refine xl_v (v_add (by omega)) ?_
   refine xm (xl_nil ?_)
   refine ⟨_,?_,rfl,k+1,rfl,by omega,?_,evc,lkc⟩
   ·omega
   ·rw [bits_le]
    first
     | (rw [if_pos (by omega)];infer_instance)
     | (rw [if_neg (by omega)];infer_instance)
  have hk8:k=8:=by omega
  subst hk8
  refine x_exit (xq (xm (xz ?_)))
  refine x_ret ?_
  refine fin1 rfl ?_
  exact ⟨rfl,lkc⟩
theorem made_ok (w:World):Ret Tryz.prog 123 #[.func (.func 124) ([]:List Value).toArray ([]:List Value).toArray] w (fun v w'=>v=.agg (tabC 256).toArray/\Lk w' w NoB):=by
 refine ret_of_x (N:=15) (l:=[.func (.func 124) ([]:List Value).toArray ([]:List Value).toArray]) Tryz.func123 rfl rfl (Nat.le_of_ble_eq_true rfl) ?_
 refine xq ?_
 refine xl_e (e_alloc fun b2 w1 n2 l2 k2=>?_)
 refine xl_nil ?_
 refine x_seq (xq (xm (xl_nil ?_)))
 refine x_block ?_
 haveI kz:Blk w1 b2 (.cells (tabC 0).toArray 157 (0,0)):=by rw [tabC_zero];exact k2
 clear k2
 refine x_loop (fun t τ ds w'=>ds=[]/\∃ k:Nat,t=256 - k/\k<=256/\Ev τ 0 (.func (.func 124) ([]:List Value).toArray ([]:List Value).toArray)/\Ev τ 2 (.pointer (some ⟨b2,0,none⟩))/\Ev τ 4 (.int .i64 (k:Int))/\Blk w' b2 (.cells (tabC k).toArray 157 (0,0))/\Lk w' w NoB) (256) ?start ?round
 case start=>
  exact ⟨rfl,0,rfl,Nat.zero_le _,ii,ii,evc,kz,lkc⟩
 case round=>
  intro m τ2 ds2 w2 hI
  obtain ⟨rfl,k,rfl,hk,e0,e2,e4,kb,lk⟩:=hI
  refine xq (xl_v v_lss (xl_nil ?_))
  refine x_seq ?_
  refine x_if (fun c1=>?_) (fun c1=>?_)
  ·have hk1:k<256:=by omega
   refine x_skip (x_seq (x_block (xq (xm (xz ?_)))))
   refine x_regionL (xm (xm (xm ?_)))
   refine xl_v (v_congr (u:=.int .u32 ((BitVec.ofNat 32 k).toNat:Int)) v_convert (congrArg (Value.int .u32) (by rw [BitVec.toNat_ofNat,Nat.mod_eq_of_lt (by omega)];simp [IntKind.wrap,IntKind.signed,IntKind.bits];omega))) ?_
   refine xl_call (bits1_ok (BitVec.ofNat 32 k) w2) ?_
   rintro _ w3 ⟨rfl,lk4⟩
   refine xl_v (v_indexArrK k rfl (by omega)) ?_
   refine xl_s (e_storeB (by simp [tabC_len];omega) fun w4 l6 k6=>?_)
   haveI kz2:Blk w4 b2 (.cells (tabC (k+1)).toArray 157 (0,0)):=⟨by rw [<- tabC_set hk1];simpa using k6.eq⟩
   refine xl_nil ?_
   refine x_regionL ?_
   refine xl_v (v_add (by omega)) ?_
   refine xm (xl_nil ?_)
   refine ⟨_,?_,rfl,k+1,rfl,by omega,ii,ii,evc,kz2,lkc⟩
   omega
  have hk8:k=256:=by omega
  subst hk8
  refine x_exit (xq (xl_Lb ?_))
  refine xl_s (e_storeA fun w5 l5 k5=>?_)
  refine xl_nil ?_
  refine x_ret ?_
  refine finR (rs:=[.cell 2 157]) rfl ?_
  exact ⟨by simp [outV],lkc⟩
theorem bits_ok (w:World):Ret Tryz.prog 113 #[] w (fun v w'=>v=.agg (tabC 256).toArray/\Lk w' w NoB):=by
 refine ret_of_x (N:=2) (l:=[]) Tryz.func113 rfl rfl (Nat.le_of_ble_eq_true rfl) ?_
 refine xq ?_
 refine xl_e (e_alloc fun b2 w1 n2 l2 k2=>?_)
 refine xl_nil ?_
 haveI kz:Blk w1 b2 (.cells (tabC 0).toArray 157 (0,0)):=by rw [tabC_zero];exact k2
 clear k2
 refine xq ?_
 refine xl_call (made_ok w1) ?_
 rintro _ w2 ⟨rfl,lk⟩
 refine xl_s (e_storeA fun w3 l3 k3=>?_)
 refine xl_nil ?_
 refine x_ret ?_
 refine finR (rs:=[.cell 0 157]) rfl ?_
 exact ⟨by simp [outV],lkc⟩
theorem on_ok (x:W32) (b:Nat) (A:Option Addr) (n c:Nat) (bs:List UInt8) (w:World) [hb:Blk w b (.cells (tabC 256).toArray 157 (0,0))] [Row w A (bytesC bs)] (hl:bs.length=n) (hn:n<=1000000000):Ret Tryz.prog 114 #[.int .u32 (x.toNat:Int),.pointer (some ⟨b,0,none⟩),.slice A n c] w (fun v w'=>v=.int .u32 ((runW x bs).toNat:Int)/\Lk w' w NoB):=by
 haveI hr:Row w (some ⟨b,0,none⟩) (tabC 256):=⟨row_blk hb.eq⟩
 refine ret_of_x (N:=28) (l:=[.int .u32 (x.toNat:Int),.pointer (some ⟨b,0,none⟩),.slice A n c]) Tryz.func114 rfl rfl (Nat.le_of_ble_eq_true rfl) ?_
 refine xq (xz ?_)
 refine x_seq (xq (xm (xl_v v_len (xm (xl_nil ?_)))))
 refine x_block ?_
 refine x_loop (fun t τ ds w'=>ds=[]/\∃ k:Nat,t=n - k/\k<=n/\Ev τ 0 (.int .u32 ((runW x (bs.take k)).toNat:Int))/\Ev τ 1 (.pointer (some ⟨b,0,none⟩))/\Ev τ 9 (.slice A n c)/\Ev τ 10 (.int .i64 (n:Int))/\Ev τ 11 (.int .i64 (k:Int))/\Lk w' w NoB) (n) ?start ?round
 case start=>
  exact ⟨rfl,0,rfl,Nat.zero_le _,ii,ii,ii,ii,evc,lkc⟩
 case round=>
  intro m τ1 ds1 w1 hI
  obtain ⟨rfl,k,rfl,hk,e0,e1,e9,e10,e11,lk⟩:=hI
  obtain ⟨y,hy⟩:∃ y,y=runW x (bs.take k):=⟨_,rfl⟩
  rw [<- hy] at e0
  refine xq (xl_v v_lss (xl_nil ?_))
  refine x_seq ?_
  refine x_if (fun c1=>?_) (fun c1=>?_)
  ·have hk1:k<bs.length:=by omega
   obtain ⟨i1,i2,i3⟩:=low_idx y bs[k]
   refine x_skip (x_seq (x_block (xq ?_)))
   refine xl_v (v_indexO k rfl (by omega) hk1) ?_
   refine xl_v (v_loadO (k:=k) hk1) ?_
   refine xz ?_
   refine x_regionL (xm ?_)
   refine xl_v (v_congr (u:=.int .u32 ((y >>> 8).toNat:Int)) (v_shr (by omega)) (congrArg (Value.int .u32) (shrW y 8 (by omega)))) ?_
   refine xm (xm (xl_v v_convert (xm ?_)))
   refine xl_v (v_congr (u:=.int .u8 ((((y ^^^ byteW bs[k]) &&& 255#32).toNat:Nat):Int)) v_xor (congrArg (Value.int .u8) i1)) ?_
   refine xl_Nc ?_
   refine xl_v (v_indexArrK ((y ^^^ byteW bs[k]) &&& 255#32).toNat rfl i2) ?_
   refine xl_v (v_loadR (v:=.int .u32 ((bit8 ((y ^^^ byteW bs[k]) &&& 255#32)).toNat:Int)) (by rw [Nat.mul_one,tabC_get i2,if_pos i2,i3])) ?_
   refine xl_v (v_congr (u:=.int .u32 ((bit8 (y ^^^ byteW bs[k])).toNat:Int)) v_xor (congrArg (Value.int .u32) ((xorW _ _).trans (by rw [bit8_table])))) ?_
   refine xz ?_
   refine x_regionL ?_
   refine xl_v (v_add (by omega)) ?_
   refine xm (xl_nil ?_)
   refine ⟨_,?_,rfl,k+1,rfl,by omega,?_,ii,ii,ii,evc,lkc⟩
   ·omega
   ·rw [List.take_succ_eq_append_getElem hk1,runW_snoc,<- hy];infer_instance
  refine x_exit (xq (xm (xz ?_)))
  refine x_ret ?_
  refine fin1 rfl ?_
  refine ⟨?_,lkc⟩
  rw [hy,List.take_of_length_le (by omega)]
theorem wsum_ok (x:W32) (w:World):Ret Tryz.prog 115 #[.int .u32 (x.toNat:Int)] w (fun v w'=>v=.int .u32 ((~~~ x).toNat:Int)/\w=w'):=by
 refine ret_of_x (N:=5) (l:=[.int .u32 (x.toNat:Int)]) Tryz.func115 rfl rfl (Nat.le_of_ble_eq_true rfl) ?_
 refine xq (xz ?_)
 refine xq (xm ?_)
 refine xl_v (v_congr (u:=.int .u32 ((~~~ x).toNat:Int)) v_compl (congrArg (Value.int .u32) (complW x))) ?_
 refine xz ?_
 refine x_ret ?_
 refine fin1 rfl ?_
 exact ⟨rfl,rfl⟩
theorem more_ok (A:Option Addr) (n c:Nat) (bs:List UInt8) (w:World) [hr:Row w A (bytesC bs)] (hl:bs.length=n) (hn:n<=1000000000):Ret Tryz.prog 102 #[.int .u32 0,.slice A n c] w (fun v w'=>v=.int .u32 ((sumW bs).toNat:Int)/\Lk w' w NoB):=by
 haveI hrb:RowB w A w (bytesC bs):=rowB_of hr.row
 refine ret_of_x (N:=12) (l:=[.int .u32 0,.slice A n c]) Tryz.func102 rfl rfl (Nat.le_of_ble_eq_true rfl) ?_
 refine xq (xz ?_)
 refine xq ?_
 refine xl_call (bits_ok w) ?_
 rintro _ w1 ⟨rfl,lk⟩
 refine xl_e (e_alloc fun b5 w2 n5 l5 k5=>?_)
 haveI kz:Blk w2 b5 (.cells (tabC 0).toArray 157 (0,0)):=by rw [tabC_zero];exact k5
 clear k5
 refine xl_s (e_storeA fun w3 l3 k3=>?_)
 refine xl_nil ?_
 refine xq (xm ?_)
 refine xl_v (v_congr (u:=.int .u32 ((~~~ 0#32).toNat:Int)) v_compl (congrArg (Value.int .u32) (complW 0#32))) ?_
 refine xm ?_
 refine xl_call (on_ok (~~~ 0#32) b5 A n c bs w3 hl hn) ?_
 rintro _ w4 ⟨rfl,lk3⟩
 refine xl_call (wsum_ok _ _) ?_
 rintro _ _ ⟨rfl,rfl⟩
 refine xz ?_
 refine x_ret ?_
 refine fin1 rfl ?_
 exact ⟨rfl,lkc⟩
theorem sum_ok (A:Option Addr) (n c:Nat) (bs:List UInt8) (w:World) [Row w A (bytesC bs)] (hl:bs.length=n) (hn:n<=1000000000):Ret Tryz.prog 70 #[.slice A n c] w (fun v w'=>v=.int .u32 ((sumW bs).toNat:Int)/\Lk w' w NoB):=by
 refine ret_of_x (N:=5) (l:=[.slice A n c]) Tryz.func70 rfl rfl (Nat.le_of_ble_eq_true rfl) ?_
 refine xq (xz ?_)
 refine xq (xm ?_)
 refine xl_call (more_ok A n c bs w hl hn) ?_
 rintro _ w1 ⟨rfl,lk⟩
 refine xz ?_
 refine x_ret ?_
 refine fin1 rfl ?_
 exact ⟨rfl,lkc⟩
theorem shr_shr (x:W32) (k:Nat):(x >>> (8*k)) >>> 8=x >>> (8*(k+1)):=by
 rw [<- BitVec.shiftRight_add]
 congr 1
theorem le4_get (x:W32) (k:Nat) (hk:k<(le4 x).length):((le4 x)[k].toNat:Int)=IntKind.u8.wrap ((x >>> (8*k)).toNat:Int):=by
 have hw:∀ a:Nat,IntKind.u8.wrap (a:Int)=((a % 256:Nat):Int):=fun a=>by simp [IntKind.wrap,IntKind.signed,IntKind.bits]
 have hk4:k<4:=hk
 rw [hw,BitVec.toNat_ushiftRight,Nat.shiftRight_eq_div_pow]
 have h:∀ a:Nat,(UInt8.ofNat (a % 256)).toNat=a % 256:=fun a=>toNat_ofNat (Nat.mod_lt _ (by omega))
 match k,hk4 with
 | 0,_=>simp [le4,h]
 | 1,_=>show ((UInt8.ofNat (x.toNat / 256 % 256)).toNat:Int)=_;rw [h]
 | 2,_=>show ((UInt8.ofNat (x.toNat / 65536 % 256)).toNat:Int)=_;rw [h]
 | 3,_=>show ((UInt8.ofNat (x.toNat / 16777216 % 256)).toNat:Int)=_;rw [h]
theorem little_ok (x:W32) (w:World):Ret Tryz.prog 121 #[.int .u32 (x.toNat:Int),.int .i64 4] w (fun v w'=>(∃ A' c',v=.slice A' 4 c'/\w'.ownsRow w.heap.size 5 1 v 4 (bytesC (le4 x)))/\Lk w' w NoB):=by
 refine ret_of_x (N:=18) (l:=[.int .u32 (x.toNat:Int),.int .i64 4]) Tryz.func121 rfl rfl (Nat.le_of_ble_eq_true rfl) ?_
 refine xq (xz ?_)
 refine xq (xz ?_)
 refine x_seq (xq (xm (xm (xl_nil ?_))))
 refine x_block ?_
 refine x_loop (fun t τ ds w'=>ds=[]/\∃ (k:Nat) (V:Value),t=4 - k/\k<=4/\w'.ownsRow w.heap.size 5 1 V k (bytesC ((le4 x).take k))/\Ev τ 0 (.int .u32 ((x >>> (8*k)).toNat:Int))/\Ev τ 5 V/\Ev τ 6 (.int .i64 4)/\Ev τ 7 (.int .i64 (k:Int))/\Lk w' w NoB) (4) ?start ?round
 case start=>
  exact ⟨rfl,0,_,rfl,Nat.zero_le _,World.ownsRow_nil _ _ _ _,by simpa using (ii:Ev _ 0 (.int .u32 (x.toNat:Int))),ii,ii,evc,lkc⟩
 case round=>
  intro m τ1 ds1 w1 hI
  obtain ⟨rfl,k,V,rfl,hk,hown,e0,e5,e6,e7,lk⟩:=hI
  refine xq (xl_v v_lss (xl_nil ?_))
  refine x_seq ?_
  refine x_if (fun c1=>?_) (fun c1=>?_)
  ·have hk1:k<(le4 x).length:=by show k<4;omega
   refine x_skip (x_seq (x_block (xq (xm (xm ?_)))))
   refine xl_v (v_congr (u:=.int .u8 ((le4 x)[k].toNat:Int)) v_convert (congrArg (Value.int .u8) (le4_get x k hk1).symm)) ?_
   refine xl_e (e_buildSlice1 rfl fun b5 w2 n5 l5 k5=>?_)
   haveI:=ownN_of hown (Nat.le_refl _)
   refine xl_e (e_append' (own_ext hown lkc) Ge.le rfl Cell1L.eq (by decide) (.inl rfl) (by omega) (by omega) fun A6 c6 w3 hown2 l6 _=>?_)
   have hown2:World.ownsRow w3 w.heap.size 5 1 (.slice A6 (k+1) c6) (k+1) (bytesC ((le4 x).take (k+1))):=by
    rw [List.take_succ_eq_append_getElem hk1,<- bytesC_append]
    exact hown2
   refine xz ?_
   refine x_regionL (xm ?_)
   refine xl_v (v_congr (u:=.int .u32 ((x >>> (8*(k+1))).toNat:Int)) (v_shr (by omega)) (congrArg (Value.int .u32) ((shrW (x >>> (8*k)) 8 (by omega)).trans (by rw [shr_shr])))) ?_
   refine xz ?_
   refine x_regionL ?_
   refine xl_v (v_add (by omega)) ?_
   refine xm (xl_nil ?_)
   refine ⟨_,?_,rfl,k+1,_,rfl,by omega,hown2,ii,ii,ii,evc,lkc⟩
   omega
  refine x_exit (xq (xm (xz ?_)))
  refine x_ret ?_
  refine fin1 rfl ?_
  have hkn:k=4:=by omega
  subst hkn
  rw [List.take_of_length_le (by show 4<=4;omega)] at hown
  obtain ⟨A',c',rfl,_⟩:=ownsRow_form hown
  exact ⟨⟨A',c',rfl,hown⟩,lkc⟩
theorem eqb_ok (A:Option Addr) (n c:Nat) (xs:List UInt8) (B:Option Addr) (n' c':Nat) (ys:List UInt8) (w:World) [Row w A (bytesC xs)] [Row w B (bytesC ys)] (hl:xs.length=n) (hl':ys.length=n') (hn:n<=1000000000):Ret Tryz.prog 120 #[.slice A n c,.slice B n' c'] w (fun v w'=>v=.bool (decide (xs=ys))/\Lk w' w NoB):=by
 refine ret_of_x (N:=26) (l:=[.slice A n c,.slice B n' c']) Tryz.func120 rfl rfl (Nat.le_of_ble_eq_true rfl) ?_
 refine xq (xz ?_)
 refine x_seq (xq (xm (xl_v v_len (xm (xl_v v_len (xl_v v_neq (xl_nil ?_)))))))
 refine x_if (fun c1=>?_) (fun c1=>?_)
 ·refine xq (xz ?_)
  refine x_ret ?_
  refine fin1 rfl ?_
  exact ⟨by rw [decide_eq_false];intro e;subst e;omega,lkc⟩
 have hnn:n=n':=by omega
 refine x_skip (x_seq (xq (xm (xl_v v_len (xm (xl_nil ?_))))))
 refine x_block ?_
 refine x_loop (fun m τ ds w'=>ds=[]/\∃ k:Nat,m=n - k/\k<=n/\xs.take k=ys.take k/\Ev τ 0 (.slice A n c)/\Ev τ 1 (.slice B n' c')/\Ev τ 12 (.int .i64 (n:Int))/\Ev τ 13 (.int .i64 (k:Int))/\Lk w' w NoB) (n) ?start ?round
 case start=>
  exact ⟨rfl,0,rfl,Nat.zero_le _,by simp,ii,ii,ii,evc,lkc⟩
 case round=>
  intro m τ1 ds1 w1 hI
  obtain ⟨rfl,k,rfl,hk,heq,e0,e1,e2,e3,lk⟩:=hI
  refine xq (xl_v v_lss (xl_nil ?_))
  refine x_seq ?_
  refine x_if (fun c2=>?_) (fun c2=>?_)
  ·have hk1:k<xs.length:=by omega
   have hk2:k<ys.length:=by omega
   refine x_skip (x_seq (x_block (xq (xm (xz ?_)))))
   refine x_seq ?_
   refine x_drawL (NoB) (allS) (.take 0 (.take 1 (.take 2 (.take 3 (.take 4 (.take 5 (.take 6 (.take 7 (.take 8 .done))))))))) mixed (by kernel_rfl) (fun _ _ _ _ _ h=>h) (fun w2 l2=>?_)
   refine xt_v rfl v_move (xt_v rfl v_move ?_)
   refine xt_v rfl (v_indexO k rfl (by omega) hk1) ?_
   refine xt_v rfl (v_loadO (k:=k) hk1) ?_
   refine xt_v rfl v_move (xt_v rfl v_move ?_)
   refine xt_v rfl (v_indexO k rfl (by omega) hk2) ?_
   refine xt_v rfl (v_loadO (k:=k) hk2) ?_
   refine xt_v rfl v_neq ?_
   refine xt_nil ?_
   refine x_condE (fun c3=>?_) (fun c3=>?_)
   ·have hne:xs[k]≠ys[k]:=fun e=>by rw [e] at c3;simp at c3
    refine xq (xz ?_)
    refine x_ret ?_
    refine fin1 rfl ?_
    refine ⟨?_,lkc⟩
    rw [decide_eq_false]
    intro e
    subst e
    exact hne rfl
   have heqk:xs[k]=ys[k]:=by
    simp at c3
    exact UInt8.toNat_inj.1 (by omega)
   refine x_skip (x_regionL ?_)
   refine xl_v (v_add (by omega)) ?_
   refine xm (xl_nil ?_)
   refine ⟨_,?_,rfl,k+1,rfl,by omega,?_,ii,ii,ii,evc,lkc⟩
   ·omega
   ·rw [List.take_succ_eq_append_getElem hk1,List.take_succ_eq_append_getElem hk2,heq,heqk]
  refine x_exit (xq (xz ?_))
  refine x_ret ?_
  refine fin1 rfl ?_
  refine ⟨?_,lkc⟩
  rw [decide_eq_true]
  rw [List.take_of_length_le (by omega),List.take_of_length_le (by omega)] at heq
  exact heq
theorem brow_take {w:World} {A:Option Addr} {bs:List UInt8} (h:RowP w A (bytesC bs)) (k:Nat):RowP w A (bytesC (bs.take k)):=by
 have:=row_take h k
 rwa [bytesC,<- List.map_take] at this
theorem brow_drop {w:World} {A:Option Addr} {bs:List UInt8} {c k:Nat} (h:RowP w A (bytesC bs)) (hc:bs.length<=c):RowP w (if c=k then A else A.map (·.add (k*1))) (bytesC (bs.drop k)):=by
 have:=row_drop (k:=k) (sz:=1) h (by simp [bytesC]) hc
 simp only [Nat.mul_one] at this ⊢
 rwa [bytesC,<- List.map_drop] at this
theorem open_ok (A:Option Addr) (n c:Nat) (bs:List UInt8) (w:World) [hr:Row w A (bytesC bs)] (hl:bs.length=n) (h4:4<=n) (hn:n<=100000000) (hc:n<=c):Ret Tryz.prog 110 #[.slice A n c] w (fun v w'=>(if le4 (sumW (bs.take (n - 4)))=bs.drop (n - 4) then ∃ A' c',v=.tuple #[.slice A' (n - 4) c',.int .i64 0] else v=.tuple #[.slice none 0 0,.int .i64 110])/\Lk w' w NoB):=by
 haveI r1:Row w A (bytesC (bs.take (n - 4))):=⟨brow_take hr.row _⟩
 haveI r2:Row w (if c=n - 4 then A else A.map (·.add ((n - 4)*1))) (bytesC (bs.drop (n - 4))):=⟨brow_drop hr.row (by omega)⟩
 have hA:A.isSome=true:=row_some hr (by simp [bytesC];omega)
 refine ret_of_x (N:=26) (l:=[.slice A n c]) Tryz.func110 rfl rfl (Nat.le_of_ble_eq_true rfl) ?_
 refine xq (xa (xz ?_))
 refine xq (xm (xl_v v_len ?_))
 refine xl_v (v_sub (by omega)) ?_
 refine xz ?_
 refine x_seq (x_seq ?_)
 refine x_drawL (NoB) (allS) (.take 0 (.take 1 (.take 2 (.take 3 (.take 4 (.take 5 (.take 8 (.take 9 (.take 10 (.eff 6 (.eff 7 (.eff 11 (.take 12 (.take 13 .done)))))))))))))) mixed (by kernel_rfl) (fun _ _ _ _ _ h=>h) (fun w1 l1=>?_)
 refine xt_v rfl v_move ?_
 refine xt_v rfl (v_congr (u:=.bool false) v_lss (congrArg Value.bool (decide_eq_false (by omega)))) ?_
 refine xt_v rfl v_move (xt_gv rfl rfl EvO.eq v_move (xt_gv rfl rfl EvO.eq v_move ?_))
 refine xt_gv rfl rfl EvO.eq (v_sliceH (n - 4) (by omega) (by omega)) ?_
 refine xt_gv rfl rfl EvO.eq v_move (xt_gv rfl rfl EvO.eq v_move ?_)
 refine xt_gv rfl rfl EvO.eq (v_sliceL (n - 4) (by omega) (by omega)) ?_
 refine xt_gcall rfl rfl EvO.eq (sum_ok A (n - 4) c (bs.take (n - 4)) w1 (by rw [List.length_take];omega) (by omega)) ?_
 rintro _ w2 ⟨rfl,lk6⟩
 refine ⟨kpc,?_⟩
 refine xt_gcall rfl rfl EvO.eq (little_ok _ w2) ?_
 rintro _ w3 ⟨⟨A7,c7,rfl,ho7⟩,lk7⟩
 refine ⟨kpc,?_⟩
 haveI o7:OwnI w3 A7 _ _ _ _ _ _ _:=⟨ho7⟩
 refine xt_gcall rfl rfl EvO.eq (eqb_ok A7 4 c7 (le4 (sumW (bs.take (n - 4)))) _ (n - (n - 4)) _ (bs.drop (n - 4)) w3 rfl (by simp;omega) (by omega)) ?_
 rintro _ w4 ⟨rfl,lk11⟩
 refine ⟨kpc,?_⟩
 refine xt_gv rfl rfl EvO.eq v_not ?_
 refine xt_Pk rfl ?_
 refine xt_nil ?_
 refine x_condE (fun c1=>?_) (fun c1=>?_)
 ·refine xq (xa (xz ?_))
  refine x_ret ?_
  refine fin2 rfl ?_
  exact ⟨by rw [if_neg (by simpa using c1)],lkc⟩
 refine x_skip (xq (xm (xm ?_)))
 refine xl_v (v_sliceH (n - 4) (by omega) (by omega)) ?_
 refine xl_call (cloneb_ok A (n - 4) c (bytesC (bs.take (n - 4))) w4 (by simp [bytesC];omega) (by omega) (bytesC_one _) (.inl hA)) ?_
 rintro _ w5 ⟨⟨A4,c4,rfl,ho4⟩,lk43⟩
 refine xa (xz ?_)
 refine x_ret ?_
 refine fin2 rfl ?_
 exact ⟨by rw [if_pos (by simpa using c1)];exact ⟨A4,c4,rfl⟩,lkc⟩
end Go.Proofs.YtigmfcgeljjgnaaGreat
