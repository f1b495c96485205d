import Derived.Test.YtjmlnnanfkiakaaGreatDoorGk52
import Derived.Test.YtjmlnnanfkiakaaGreatDoorProg
set_option linter.unusedVariables false
set_option maxRecDepth 100000
namespace Go.Proofs.YtjmlnnanfkiakaaGreatDoor
open Go.Gk
def tbl:List (Nat×TI):=[
(2,⟨(.int .i64),1,8,(.int .i64 0)⟩),
(3,⟨(.int .i64),1,8,(.int .i64 0)⟩),
(4,⟨TypeDesc.bool,1,1,(.bool false)⟩),
(5,⟨(.int .u8),1,1,(.int .u8 0)⟩),
(6,⟨(.int .u8),1,1,(.int .u8 0)⟩),
(7,⟨(TypeDesc.struct #[⟨ "x",2,0,false,"","runtime",0⟩,⟨ "y",3,1,false,"","runtime",8⟩,⟨ "signed",4,2,false,"","runtime",16⟩,⟨ "code",6,3,false,"","runtime",17⟩]),4,24,(Value.agg #[.int .i64 0,.int .i64 0,.bool false,.int .u8 0])⟩),
(8,⟨(TypeDesc.struct #[⟨ "x",2,0,false,"","runtime",0⟩,⟨ "y",3,1,false,"","runtime",8⟩,⟨ "signed",4,2,false,"","runtime",16⟩,⟨ "code",6,3,false,"","runtime",17⟩]),4,24,(Value.agg #[.int .i64 0,.int .i64 0,.bool false,.int .u8 0])⟩),
(9,⟨TypeDesc.string,1,16,(.string ⟨#[]⟩)⟩),
(10,⟨TypeDesc.string,1,16,(.string ⟨#[]⟩)⟩),
(11,⟨TypeDesc.string,1,16,(.string ⟨#[]⟩)⟩),
(12,⟨(.int .u64),1,8,(.int .u64 0)⟩),
(13,⟨(TypeDesc.struct #[⟨ "msg",9,0,false,"","runtime",0⟩,⟨ "addr",12,1,false,"","runtime",16⟩]),2,24,(Value.agg #[.string ⟨#[]⟩,.int .u64 0])⟩),
(14,⟨(TypeDesc.struct #[⟨ "msg",9,0,false,"","runtime",0⟩,⟨ "addr",12,1,false,"","runtime",16⟩]),2,24,(Value.agg #[.string ⟨#[]⟩,.int .u64 0])⟩),
(15,⟨(TypeDesc.pointer 462),1,8,(Value.pointer none)⟩),
(16,⟨(TypeDesc.pointer 465),1,8,(Value.pointer none)⟩),
(17,⟨(TypeDesc.pointer 472),1,8,(Value.pointer none)⟩),
(18,⟨(TypeDesc.struct #[⟨ "typ",17,0,false,"","internal/runtime/maps",0⟩]),1,8,(Value.agg #[Value.pointer none])⟩),
(19,⟨(TypeDesc.struct #[⟨ "typ",17,0,false,"","internal/runtime/maps",0⟩]),1,8,(Value.agg #[Value.pointer none])⟩),
(21,⟨(.int .i32),1,4,(.int .i32 0)⟩),
(22,⟨(TypeDesc.slice 3),1,24,(Value.slice none 0 0)⟩),
(23,⟨(TypeDesc.pointer 25),1,8,(Value.pointer none)⟩),
(24,⟨(TypeDesc.struct #[⟨ "L",22,0,false,"","",0⟩,⟨ "at",3,1,false,"","holloway/lanemake",24⟩]),2,32,(Value.agg #[Value.slice none 0 0,.int .i64 0])⟩),
(25,⟨(TypeDesc.struct #[⟨ "L",22,0,false,"","",0⟩,⟨ "at",3,1,false,"","holloway/lanemake",24⟩]),2,32,(Value.agg #[Value.slice none 0 0,.int .i64 0])⟩),
(26,⟨(TypeDesc.slice 9),1,24,(Value.slice none 0 0)⟩),
(27,⟨(TypeDesc.slice 155),1,24,(Value.slice none 0 0)⟩),
(28,⟨(TypeDesc.struct #[⟨ "Users",26,0,false,"","",0⟩,⟨ "Owners",27,1,false,"","",24⟩,⟨ "Life",3,2,false,"","",48⟩,⟨ "Approve",4,3,false,"","",56⟩]),4,64,(Value.agg #[Value.slice none 0 0,Value.slice none 0 0,.int .i64 0,.bool false])⟩),
(29,⟨(TypeDesc.struct #[⟨ "Users",26,0,false,"","",0⟩,⟨ "Owners",27,1,false,"","",24⟩,⟨ "Life",3,2,false,"","",48⟩,⟨ "Approve",4,3,false,"","",56⟩]),4,64,(Value.agg #[Value.slice none 0 0,Value.slice none 0 0,.int .i64 0,.bool false])⟩),
(30,⟨(TypeDesc.slice 37),1,24,(Value.slice none 0 0)⟩),
(31,⟨(.int .i64),1,8,(.int .i64 0)⟩),
(32,⟨(TypeDesc.struct #[⟨ "d",29,0,false,"","holloway/lanelaw1",0⟩,⟨ "l",30,4,false,"","holloway/lanelaw1",64⟩,⟨ "fault",31,5,false,"","holloway/lanelaw1",88⟩]),6,96,(Value.agg #[Value.slice none 0 0,Value.slice none 0 0,.int .i64 0,.bool false,Value.slice none 0 0,.int .i64 0])⟩),
(33,⟨(TypeDesc.struct #[⟨ "d",29,0,false,"","holloway/lanelaw1",0⟩,⟨ "l",30,4,false,"","holloway/lanelaw1",64⟩,⟨ "fault",31,5,false,"","holloway/lanelaw1",88⟩]),6,96,(Value.agg #[Value.slice none 0 0,Value.slice none 0 0,.int .i64 0,.bool false,Value.slice none 0 0,.int .i64 0])⟩),
(36,⟨(TypeDesc.struct #[⟨ "At",3,0,false,"","",0⟩,⟨ "Server",9,1,false,"","",8⟩,⟨ "No",3,2,false,"","",24⟩,⟨ "Kind",3,3,false,"","",32⟩,⟨ "By",9,4,false,"","",40⟩,⟨ "Node",9,5,false,"","",56⟩,⟨ "Join",9,6,false,"","",72⟩,⟨ "Public",9,7,false,"","",88⟩,⟨ "Name",9,8,false,"","",104⟩,⟨ "Tags",26,9,false,"","",120⟩,⟨ "Until",3,10,false,"","",144⟩,⟨ "Uses",3,11,false,"","",152⟩,⟨ "Ready",4,12,false,"","",160⟩]),13,168,(Value.agg #[.int .i64 0,.string ⟨#[]⟩,.int .i64 0,.int .i64 0,.string ⟨#[]⟩,.string ⟨#[]⟩,.string ⟨#[]⟩,.string ⟨#[]⟩,.string ⟨#[]⟩,Value.slice none 0 0,.int .i64 0,.int .i64 0,.bool false])⟩),
(37,⟨(TypeDesc.struct #[⟨ "At",3,0,false,"","",0⟩,⟨ "Server",9,1,false,"","",8⟩,⟨ "No",3,2,false,"","",24⟩,⟨ "Kind",3,3,false,"","",32⟩,⟨ "By",9,4,false,"","",40⟩,⟨ "Node",9,5,false,"","",56⟩,⟨ "Join",9,6,false,"","",72⟩,⟨ "Public",9,7,false,"","",88⟩,⟨ "Name",9,8,false,"","",104⟩,⟨ "Tags",26,9,false,"","",120⟩,⟨ "Until",3,10,false,"","",144⟩,⟨ "Uses",3,11,false,"","",152⟩,⟨ "Ready",4,12,false,"","",160⟩]),13,168,(Value.agg #[.int .i64 0,.string ⟨#[]⟩,.int .i64 0,.int .i64 0,.string ⟨#[]⟩,.string ⟨#[]⟩,.string ⟨#[]⟩,.string ⟨#[]⟩,.string ⟨#[]⟩,Value.slice none 0 0,.int .i64 0,.int .i64 0,.bool false])⟩),
(40,⟨(TypeDesc.slice 48),1,24,(Value.slice none 0 0)⟩),
(47,⟨(TypeDesc.struct #[⟨ "Step",3,0,false,"","",0⟩,⟨ "Why",31,1,false,"","",8⟩]),2,16,(Value.agg #[.int .i64 0,.int .i64 0])⟩),
(48,⟨(TypeDesc.struct #[⟨ "Step",3,0,false,"","",0⟩,⟨ "Why",31,1,false,"","",8⟩]),2,16,(Value.agg #[.int .i64 0,.int .i64 0])⟩),
(73,⟨(TypeDesc.slice 77),1,24,(Value.slice none 0 0)⟩),
(76,⟨(TypeDesc.struct #[⟨ "Node",9,0,false,"","",0⟩,⟨ "User",9,1,false,"","",16⟩,⟨ "Name",9,2,false,"","",32⟩,⟨ "Public",9,3,false,"","",48⟩,⟨ "Tags",26,4,false,"","",64⟩,⟨ "Joined",3,5,false,"","",88⟩,⟨ "Expires",3,6,false,"","",96⟩,⟨ "Approved",4,7,false,"","",104⟩]),8,112,(Value.agg #[.string ⟨#[]⟩,.string ⟨#[]⟩,.string ⟨#[]⟩,.string ⟨#[]⟩,Value.slice none 0 0,.int .i64 0,.int .i64 0,.bool false])⟩),
(77,⟨(TypeDesc.struct #[⟨ "Node",9,0,false,"","",0⟩,⟨ "User",9,1,false,"","",16⟩,⟨ "Name",9,2,false,"","",32⟩,⟨ "Public",9,3,false,"","",48⟩,⟨ "Tags",26,4,false,"","",64⟩,⟨ "Joined",3,5,false,"","",88⟩,⟨ "Expires",3,6,false,"","",96⟩,⟨ "Approved",4,7,false,"","",104⟩]),8,112,(Value.agg #[.string ⟨#[]⟩,.string ⟨#[]⟩,.string ⟨#[]⟩,.string ⟨#[]⟩,Value.slice none 0 0,.int .i64 0,.int .i64 0,.bool false])⟩),
(80,⟨(TypeDesc.slice 90),1,24,(Value.slice none 0 0)⟩),
(89,⟨(TypeDesc.struct #[⟨ "Key",9,0,false,"","",0⟩,⟨ "By",9,1,false,"","",16⟩,⟨ "Tags",26,2,false,"","",32⟩,⟨ "Until",3,3,false,"","",56⟩,⟨ "Left",3,4,false,"","",64⟩,⟨ "Ready",4,5,false,"","",72⟩]),6,80,(Value.agg #[.string ⟨#[]⟩,.string ⟨#[]⟩,Value.slice none 0 0,.int .i64 0,.int .i64 0,.bool false])⟩),
(90,⟨(TypeDesc.struct #[⟨ "Key",9,0,false,"","",0⟩,⟨ "By",9,1,false,"","",16⟩,⟨ "Tags",26,2,false,"","",32⟩,⟨ "Until",3,3,false,"","",56⟩,⟨ "Left",3,4,false,"","",64⟩,⟨ "Ready",4,5,false,"","",72⟩]),6,80,(Value.agg #[.string ⟨#[]⟩,.string ⟨#[]⟩,Value.slice none 0 0,.int .i64 0,.int .i64 0,.bool false])⟩),
(95,⟨(TypeDesc.slice 107),1,24,(Value.slice none 0 0)⟩),
(106,⟨(TypeDesc.struct #[⟨ "Public",9,0,false,"","",0⟩,⟨ "From",3,1,false,"","",16⟩,⟨ "To",3,2,false,"","",24⟩]),3,32,(Value.agg #[.string ⟨#[]⟩,.int .i64 0,.int .i64 0])⟩),
(107,⟨(TypeDesc.struct #[⟨ "Public",9,0,false,"","",0⟩,⟨ "From",3,1,false,"","",16⟩,⟨ "To",3,2,false,"","",24⟩]),3,32,(Value.agg #[.string ⟨#[]⟩,.int .i64 0,.int .i64 0])⟩),
(113,⟨(TypeDesc.struct #[⟨ "From",3,0,false,"","",0⟩,⟨ "To",3,1,false,"","",8⟩]),2,16,(Value.agg #[.int .i64 0,.int .i64 0])⟩),
(114,⟨(TypeDesc.struct #[⟨ "From",3,0,false,"","",0⟩,⟨ "To",3,1,false,"","",8⟩]),2,16,(Value.agg #[.int .i64 0,.int .i64 0])⟩),
(128,⟨(TypeDesc.slice 255),1,24,(Value.slice none 0 0)⟩),
(130,⟨(TypeDesc.slice 138),1,24,(Value.slice none 0 0)⟩),
(135,⟨(TypeDesc.slice 252),1,24,(Value.slice none 0 0)⟩),
(136,⟨(TypeDesc.slice 257),1,24,(Value.slice none 0 0)⟩),
(137,⟨(TypeDesc.struct #[⟨ "Key",9,0,false,"","",0⟩,⟨ "User",9,1,false,"","",16⟩,⟨ "Name",9,2,false,"","",32⟩,⟨ "Tags",26,3,false,"","",48⟩,⟨ "Addrs",135,4,false,"","",72⟩,⟨ "Routes",136,5,false,"","",96⟩]),6,120,(Value.agg #[.string ⟨#[]⟩,.string ⟨#[]⟩,.string ⟨#[]⟩,Value.slice none 0 0,Value.slice none 0 0,Value.slice none 0 0])⟩),
(138,⟨(TypeDesc.struct #[⟨ "Key",9,0,false,"","",0⟩,⟨ "User",9,1,false,"","",16⟩,⟨ "Name",9,2,false,"","",32⟩,⟨ "Tags",26,3,false,"","",48⟩,⟨ "Addrs",135,4,false,"","",72⟩,⟨ "Routes",136,5,false,"","",96⟩]),6,120,(Value.agg #[.string ⟨#[]⟩,.string ⟨#[]⟩,.string ⟨#[]⟩,Value.slice none 0 0,Value.slice none 0 0,Value.slice none 0 0])⟩),
(144,⟨(TypeDesc.pointer 206),1,8,(Value.pointer none)⟩),
(149,⟨(TypeDesc.struct #[⟨ "server",9,0,false,"","holloway/node",0⟩,⟨ "no",3,1,false,"","holloway/node",16⟩]),2,24,(Value.agg #[.string ⟨#[]⟩,.int .i64 0])⟩),
(150,⟨(TypeDesc.struct #[⟨ "server",9,0,false,"","holloway/node",0⟩,⟨ "no",3,1,false,"","holloway/node",16⟩]),2,24,(Value.agg #[.string ⟨#[]⟩,.int .i64 0])⟩),
(154,⟨(TypeDesc.struct #[⟨ "Tag",9,0,false,"","",0⟩,⟨ "Users",26,1,false,"","",16⟩]),2,40,(Value.agg #[.string ⟨#[]⟩,Value.slice none 0 0])⟩),
(155,⟨(TypeDesc.struct #[⟨ "Tag",9,0,false,"","",0⟩,⟨ "Users",26,1,false,"","",16⟩]),2,40,(Value.agg #[.string ⟨#[]⟩,Value.slice none 0 0])⟩),
(156,⟨(TypeDesc.pointer 220),1,8,(Value.pointer none)⟩),
(159,⟨(TypeDesc.map 9 3),1,8,(Value.map none)⟩),
(161,⟨(TypeDesc.pointer 37),1,8,(Value.pointer none)⟩),
(163,⟨(TypeDesc.slice 26),1,24,(Value.slice none 0 0)⟩),
(170,⟨(TypeDesc.array 2 30),2,48,(Value.agg #[Value.slice none 0 0,Value.slice none 0 0])⟩),
(171,⟨(TypeDesc.map 150 37),1,8,(Value.map none)⟩),
(175,⟨(TypeDesc.map 150 4),1,8,(Value.map none)⟩),
(176,⟨(TypeDesc.slice 31),1,24,(Value.slice none 0 0)⟩),
(179,⟨(TypeDesc.pointer 182),1,8,(Value.pointer none)⟩),
(180,⟨(TypeDesc.slice 5),1,24,(Value.slice none 0 0)⟩),
(181,⟨(TypeDesc.struct #[⟨ "addr",179,0,false,"","strings",0⟩,⟨ "buf",180,1,false,"","strings",8⟩]),2,32,(Value.agg #[Value.pointer none,Value.slice none 0 0])⟩),
(182,⟨(TypeDesc.struct #[⟨ "addr",179,0,false,"","strings",0⟩,⟨ "buf",180,1,false,"","strings",8⟩]),2,32,(Value.agg #[Value.pointer none,Value.slice none 0 0])⟩),
(201,⟨(TypeDesc.map 9 4),1,8,(Value.map none)⟩),
(202,⟨(TypeDesc.map 9 213),1,8,(Value.map none)⟩),
(203,⟨(TypeDesc.map 9 77),1,8,(Value.map none)⟩),
(204,⟨(TypeDesc.map 9 231),1,8,(Value.map none)⟩),
(205,⟨(TypeDesc.struct #[⟨ "d",29,0,false,"","holloway/node",0⟩,⟨ "users",201,4,false,"","holloway/node",64⟩,⟨ "passes",202,5,false,"","holloway/node",72⟩,⟨ "there",203,6,false,"","holloway/node",80⟩,⟨ "story",204,7,false,"","holloway/node",88⟩]),8,96,(Value.agg #[Value.slice none 0 0,Value.slice none 0 0,.int .i64 0,.bool false,Value.map none,Value.map none,Value.map none,Value.map none])⟩),
(206,⟨(TypeDesc.struct #[⟨ "d",29,0,false,"","holloway/node",0⟩,⟨ "users",201,4,false,"","holloway/node",64⟩,⟨ "passes",202,5,false,"","holloway/node",72⟩,⟨ "there",203,6,false,"","holloway/node",80⟩,⟨ "story",204,7,false,"","holloway/node",88⟩]),8,96,(Value.agg #[Value.slice none 0 0,Value.slice none 0 0,.int .i64 0,.bool false,Value.map none,Value.map none,Value.map none,Value.map none])⟩),
(213,⟨(TypeDesc.pointer 215),1,8,(Value.pointer none)⟩),
(215,⟨(TypeDesc.struct #[⟨ "Join",90,0,true,"","",0⟩,⟨ "revoked",4,6,false,"","holloway/node",80⟩,⟨ "used",3,7,false,"","holloway/node",88⟩]),8,96,(Value.agg #[.string ⟨#[]⟩,.string ⟨#[]⟩,Value.slice none 0 0,.int .i64 0,.int .i64 0,.bool false,.bool false,.int .i64 0])⟩),
(216,⟨(TypeDesc.map 9 225),1,8,(Value.map none)⟩),
(217,⟨(TypeDesc.map 9 221),1,8,(Value.map none)⟩),
(218,⟨(TypeDesc.map 9 95),1,8,(Value.map none)⟩),
(220,⟨(TypeDesc.struct #[⟨ "d",29,0,false,"","holloway/laneref1",0⟩,⟨ "keys",216,4,false,"","holloway/laneref1",64⟩,⟨ "nodes",217,5,false,"","holloway/laneref1",72⟩,⟨ "ever",201,6,false,"","holloway/laneref1",80⟩,⟨ "History",218,7,false,"","",88⟩]),8,96,(Value.agg #[Value.slice none 0 0,Value.slice none 0 0,.int .i64 0,.bool false,Value.map none,Value.map none,Value.map none,Value.map none])⟩),
(221,⟨(TypeDesc.pointer 77),1,8,(Value.pointer none)⟩),
(225,⟨(TypeDesc.pointer 227),1,8,(Value.pointer none)⟩),
(227,⟨(TypeDesc.struct #[⟨ "Join",90,0,true,"","",0⟩,⟨ "revoked",4,6,false,"","holloway/laneref1",80⟩,⟨ "used",3,7,false,"","holloway/laneref1",88⟩]),8,96,(Value.agg #[.string ⟨#[]⟩,.string ⟨#[]⟩,Value.slice none 0 0,.int .i64 0,.int .i64 0,.bool false,.bool false,.int .i64 0])⟩),
(231,⟨(TypeDesc.slice 233),1,24,(Value.slice none 0 0)⟩),
(232,⟨(TypeDesc.struct #[⟨ "at",3,0,false,"","holloway/node",0⟩,⟨ "is",77,1,false,"","holloway/node",8⟩,⟨ "gone",4,9,false,"","holloway/node",120⟩,⟨ "key",4,10,false,"","holloway/node",121⟩]),11,128,(Value.agg #[.int .i64 0,.string ⟨#[]⟩,.string ⟨#[]⟩,.string ⟨#[]⟩,.string ⟨#[]⟩,Value.slice none 0 0,.int .i64 0,.int .i64 0,.bool false,.bool false,.bool false])⟩),
(233,⟨(TypeDesc.struct #[⟨ "at",3,0,false,"","holloway/node",0⟩,⟨ "is",77,1,false,"","holloway/node",8⟩,⟨ "gone",4,9,false,"","holloway/node",120⟩,⟨ "key",4,10,false,"","holloway/node",121⟩]),11,128,(Value.agg #[.int .i64 0,.string ⟨#[]⟩,.string ⟨#[]⟩,.string ⟨#[]⟩,.string ⟨#[]⟩,Value.slice none 0 0,.int .i64 0,.int .i64 0,.bool false,.bool false,.bool false])⟩),
(247,⟨(TypeDesc.array 2 3),2,16,(Value.agg #[.int .i64 0,.int .i64 0])⟩),
(250,⟨(.int .u64),1,8,(.int .u64 0)⟩),
(251,⟨(TypeDesc.struct #[⟨ "Six",4,0,false,"","",0⟩,⟨ "Hi",250,1,false,"","",8⟩,⟨ "Lo",250,2,false,"","",16⟩]),3,24,(Value.agg #[.bool false,.int .u64 0,.int .u64 0])⟩),
(252,⟨(TypeDesc.struct #[⟨ "Six",4,0,false,"","",0⟩,⟨ "Hi",250,1,false,"","",8⟩,⟨ "Lo",250,2,false,"","",16⟩]),3,24,(Value.agg #[.bool false,.int .u64 0,.int .u64 0])⟩),
(254,⟨(TypeDesc.struct #[⟨ "Node",9,0,false,"","",0⟩,⟨ "Addrs",135,1,false,"","",16⟩,⟨ "Routes",136,2,false,"","",40⟩]),3,64,(Value.agg #[.string ⟨#[]⟩,Value.slice none 0 0,Value.slice none 0 0])⟩),
(255,⟨(TypeDesc.struct #[⟨ "Node",9,0,false,"","",0⟩,⟨ "Addrs",135,1,false,"","",16⟩,⟨ "Routes",136,2,false,"","",40⟩]),3,64,(Value.agg #[.string ⟨#[]⟩,Value.slice none 0 0,Value.slice none 0 0])⟩),
(256,⟨(TypeDesc.struct #[⟨ "Addr",252,0,false,"","",0⟩,⟨ "Bits",3,3,false,"","",24⟩]),4,32,(Value.agg #[.bool false,.int .u64 0,.int .u64 0,.int .i64 0])⟩),
(257,⟨(TypeDesc.struct #[⟨ "Addr",252,0,false,"","",0⟩,⟨ "Bits",3,3,false,"","",24⟩]),4,32,(Value.agg #[.bool false,.int .u64 0,.int .u64 0,.int .i64 0])⟩),
(258,⟨(TypeDesc.pointer 255),1,8,(Value.pointer none)⟩),
(279,⟨(TypeDesc.map 5 4),1,8,(Value.map none)⟩),
(283,⟨(.int .u64),1,8,(.int .u64 0)⟩),
(293,⟨(TypeDesc.pointer 5),1,8,(Value.pointer none)⟩),
(294,⟨(TypeDesc.map 21 3),1,8,(Value.map none)⟩),
(296,⟨(TypeDesc.map 21 9),1,8,(Value.map none)⟩),
(309,⟨(TypeDesc.array 256 4),256,256,(Value.agg (([.bool false,.bool false,.bool false,.bool false,.bool false,.bool false,.bool false,.bool false,.bool false,.bool false,.bool false,.bool false,.bool false,.bool false,.bool false,.bool false,.bool false,.bool false,.bool false,.bool false,.bool false,.bool false,.bool false,.bool false,.bool false,.bool false,.bool false,.bool false,.bool false,.bool false,.bool false,.bool false,.bool false,.bool false,.bool false,.bool false,.bool false,.bool false,.bool false,.bool false,.bool false,.bool false,.bool false,.bool false,.bool false,.bool false,.bool false,.bool false,.bool false,.bool false,.bool false,.bool false,.bool false,.bool false,.bool false,.bool false,.bool false,.bool false,.bool false,.bool false,.bool false,.bool false,.bool false,.bool false].append [.bool false,.bool false,.bool false,.bool false,.bool false,.bool false,.bool false,.bool false,.bool false,.bool false,.bool false,.bool false,.bool false,.bool false,.bool false,.bool false,.bool false,.bool false,.bool false,.bool false,.bool false,.bool false,.bool false,.bool false,.bool false,.bool false,.bool false,.bool false,.bool false,.bool false,.bool false,.bool false,.bool false,.bool false,.bool false,.bool false,.bool false,.bool false,.bool false,.bool false,.bool false,.bool false,.bool false,.bool false,.bool false,.bool false,.bool false,.bool false,.bool false,.bool false,.bool false,.bool false,.bool false,.bool false,.bool false,.bool false,.bool false,.bool false,.bool false,.bool false,.bool false,.bool false,.bool false,.bool false]).append ([.bool false,.bool false,.bool false,.bool false,.bool false,.bool false,.bool false,.bool false,.bool false,.bool false,.bool false,.bool false,.bool false,.bool false,.bool false,.bool false,.bool false,.bool false,.bool false,.bool false,.bool false,.bool false,.bool false,.bool false,.bool false,.bool false,.bool false,.bool false,.bool false,.bool false,.bool false,.bool false,.bool false,.bool false,.bool false,.bool false,.bool false,.bool false,.bool false,.bool false,.bool false,.bool false,.bool false,.bool false,.bool false,.bool false,.bool false,.bool false,.bool false,.bool false,.bool false,.bool false,.bool false,.bool false,.bool false,.bool false,.bool false,.bool false,.bool false,.bool false,.bool false,.bool false,.bool false,.bool false].append [.bool false,.bool false,.bool false,.bool false,.bool false,.bool false,.bool false,.bool false,.bool false,.bool false,.bool false,.bool false,.bool false,.bool false,.bool false,.bool false,.bool false,.bool false,.bool false,.bool false,.bool false,.bool false,.bool false,.bool false,.bool false,.bool false,.bool false,.bool false,.bool false,.bool false,.bool false,.bool false,.bool false,.bool false,.bool false,.bool false,.bool false,.bool false,.bool false,.bool false,.bool false,.bool false,.bool false,.bool false,.bool false,.bool false,.bool false,.bool false,.bool false,.bool false,.bool false,.bool false,.bool false,.bool false,.bool false,.bool false,.bool false,.bool false,.bool false,.bool false,.bool false,.bool false,.bool false,.bool false])).toArray)⟩),
(310,⟨(TypeDesc.array 256 4),256,256,(Value.agg (([.bool false,.bool false,.bool false,.bool false,.bool false,.bool false,.bool false,.bool false,.bool false,.bool false,.bool false,.bool false,.bool false,.bool false,.bool false,.bool false,.bool false,.bool false,.bool false,.bool false,.bool false,.bool false,.bool false,.bool false,.bool false,.bool false,.bool false,.bool false,.bool false,.bool false,.bool false,.bool false,.bool false,.bool false,.bool false,.bool false,.bool false,.bool false,.bool false,.bool false,.bool false,.bool false,.bool false,.bool false,.bool false,.bool false,.bool false,.bool false,.bool false,.bool false,.bool false,.bool false,.bool false,.bool false,.bool false,.bool false,.bool false,.bool false,.bool false,.bool false,.bool false,.bool false,.bool false,.bool false].append [.bool false,.bool false,.bool false,.bool false,.bool false,.bool false,.bool false,.bool false,.bool false,.bool false,.bool false,.bool false,.bool false,.bool false,.bool false,.bool false,.bool false,.bool false,.bool false,.bool false,.bool false,.bool false,.bool false,.bool false,.bool false,.bool false,.bool false,.bool false,.bool false,.bool false,.bool false,.bool false,.bool false,.bool false,.bool false,.bool false,.bool false,.bool false,.bool false,.bool false,.bool false,.bool false,.bool false,.bool false,.bool false,.bool false,.bool false,.bool false,.bool false,.bool false,.bool false,.bool false,.bool false,.bool false,.bool false,.bool false,.bool false,.bool false,.bool false,.bool false,.bool false,.bool false,.bool false,.bool false]).append ([.bool false,.bool false,.bool false,.bool false,.bool false,.bool false,.bool false,.bool false,.bool false,.bool false,.bool false,.bool false,.bool false,.bool false,.bool false,.bool false,.bool false,.bool false,.bool false,.bool false,.bool false,.bool false,.bool false,.bool false,.bool false,.bool false,.bool false,.bool false,.bool false,.bool false,.bool false,.bool false,.bool false,.bool false,.bool false,.bool false,.bool false,.bool false,.bool false,.bool false,.bool false,.bool false,.bool false,.bool false,.bool false,.bool false,.bool false,.bool false,.bool false,.bool false,.bool false,.bool false,.bool false,.bool false,.bool false,.bool false,.bool false,.bool false,.bool false,.bool false,.bool false,.bool false,.bool false,.bool false].append [.bool false,.bool false,.bool false,.bool false,.bool false,.bool false,.bool false,.bool false,.bool false,.bool false,.bool false,.bool false,.bool false,.bool false,.bool false,.bool false,.bool false,.bool false,.bool false,.bool false,.bool false,.bool false,.bool false,.bool false,.bool false,.bool false,.bool false,.bool false,.bool false,.bool false,.bool false,.bool false,.bool false,.bool false,.bool false,.bool false,.bool false,.bool false,.bool false,.bool false,.bool false,.bool false,.bool false,.bool false,.bool false,.bool false,.bool false,.bool false,.bool false,.bool false,.bool false,.bool false,.bool false,.bool false,.bool false,.bool false,.bool false,.bool false,.bool false,.bool false,.bool false,.bool false,.bool false,.bool false])).toArray)⟩),
(314,⟨(TypeDesc.pointer 310),1,8,(Value.pointer none)⟩),
(321,⟨(TypeDesc.slice 250),1,24,(Value.slice none 0 0)⟩),
(322,⟨(TypeDesc.map 252 4),1,8,(Value.map none)⟩),
(326,⟨(TypeDesc.array 9 3),9,72,(Value.agg #[.int .i64 0,.int .i64 0,.int .i64 0,.int .i64 0,.int .i64 0,.int .i64 0,.int .i64 0,.int .i64 0,.int .i64 0])⟩),
(341,⟨(.int .u32),1,4,(.int .u32 0)⟩),
(346,⟨(.int .i64),1,8,(.int .i64 0)⟩),
(355,⟨TypeDesc.unsafePointer,1,8,(Value.pointer none)⟩),
(390,⟨(.int .u64),1,8,(.int .u64 0)⟩),
(424,⟨(TypeDesc.pointer 390),1,8,(Value.pointer none)⟩),
(459,⟨(TypeDesc.array 32 5),32,32,(Value.agg #[.int .u8 0,.int .u8 0,.int .u8 0,.int .u8 0,.int .u8 0,.int .u8 0,.int .u8 0,.int .u8 0,.int .u8 0,.int .u8 0,.int .u8 0,.int .u8 0,.int .u8 0,.int .u8 0,.int .u8 0,.int .u8 0,.int .u8 0,.int .u8 0,.int .u8 0,.int .u8 0,.int .u8 0,.int .u8 0,.int .u8 0,.int .u8 0,.int .u8 0,.int .u8 0,.int .u8 0,.int .u8 0,.int .u8 0,.int .u8 0,.int .u8 0,.int .u8 0])⟩),
(461,⟨(TypeDesc.struct #[⟨ "_interface",17,0,false,"","runtime",0⟩,⟨ "concrete",17,1,false,"","runtime",8⟩,⟨ "asserted",17,2,false,"","runtime",16⟩,⟨ "missingMethod",9,3,false,"","runtime",24⟩]),4,40,(Value.agg #[Value.pointer none,Value.pointer none,Value.pointer none,.string ⟨#[]⟩])⟩),
(462,⟨(TypeDesc.struct #[⟨ "_interface",17,0,false,"","runtime",0⟩,⟨ "concrete",17,1,false,"","runtime",8⟩,⟨ "asserted",17,2,false,"","runtime",16⟩,⟨ "missingMethod",9,3,false,"","runtime",24⟩]),4,40,(Value.agg #[Value.pointer none,Value.pointer none,Value.pointer none,.string ⟨#[]⟩])⟩),
(463,⟨(TypeDesc.array 0 16),0,0,(Value.agg #[])⟩),
(465,⟨(TypeDesc.struct #[⟨ "_",463,0,false,"","runtime",0⟩]),0,0,(Value.agg #[])⟩),
(466,⟨(.int .u8),1,1,(.int .u8 0)⟩),
(467,⟨(.int .u8),1,1,(.int .u8 0)⟩),
(469,⟨(.int .i32),1,4,(.int .i32 0)⟩),
(470,⟨(.int .i32),1,4,(.int .i32 0)⟩),
(472,⟨(TypeDesc.struct #[⟨ "Size_",12,0,false,"","",0⟩,⟨ "PtrBytes",12,1,false,"","",8⟩,⟨ "Hash",341,2,false,"","",16⟩,⟨ "TFlag",466,3,false,"","",20⟩,⟨ "Align_",5,4,false,"","",21⟩,⟨ "FieldAlign_",5,5,false,"","",22⟩,⟨ "Kind_",467,6,false,"","",23⟩,⟨ "Equal",468,7,false,"","",24⟩,⟨ "GCData",293,8,false,"","",32⟩,⟨ "Str",469,9,false,"","",40⟩,⟨ "PtrToThis",470,10,false,"","",44⟩]),11,48,(Value.agg #[.int .u64 0,.int .u64 0,.int .u32 0,.int .u8 0,.int .u8 0,.int .u8 0,.int .u8 0,Value.nilFunc,Value.pointer none,.int .i32 0,.int .i32 0])⟩)]
def Γ(t:TypeId):Option TI:=Gk.look tbl t
theorem hΓ:TOK Tryz.prog Γ:=Gk.Kih _ (
 And.intro ⟨Tryz.underlying2,Tryz.t2,Tryz.type2,rfl,rfl,rfl⟩ (
 And.intro ⟨Tryz.underlying3,Tryz.t3,Tryz.type3,rfl,rfl,rfl⟩ (
 And.intro ⟨Tryz.underlying4,Tryz.t4,Tryz.type4,rfl,rfl,rfl⟩ (
 And.intro ⟨Tryz.underlying5,Tryz.t5,Tryz.type5,rfl,rfl,rfl⟩ (
 And.intro ⟨Tryz.underlying6,Tryz.t6,Tryz.type6,rfl,rfl,rfl⟩ (
 And.intro ⟨Tryz.underlying7,Tryz.t7,Tryz.type7,rfl,rfl,rfl⟩ (
 And.intro ⟨Tryz.underlying8,Tryz.t8,Tryz.type8,rfl,rfl,rfl⟩ (
 And.intro ⟨Tryz.underlying9,Tryz.t9,Tryz.type9,rfl,rfl,rfl⟩ (
 And.intro ⟨Tryz.underlying10,Tryz.t10,Tryz.type10,rfl,rfl,rfl⟩ (
 And.intro ⟨Tryz.underlying11,Tryz.t11,Tryz.type11,rfl,rfl,rfl⟩ (
 And.intro ⟨Tryz.underlying12,Tryz.t12,Tryz.type12,rfl,rfl,rfl⟩ (
 And.intro ⟨Tryz.underlying13,Tryz.t13,Tryz.type13,rfl,rfl,rfl⟩ (
 And.intro ⟨Tryz.underlying14,Tryz.t14,Tryz.type14,rfl,rfl,rfl⟩ (
 And.intro ⟨Tryz.underlying15,Tryz.t15,Tryz.type15,rfl,rfl,rfl⟩ (
 And.intro ⟨Tryz.underlying16,Tryz.t16,Tryz.type16,rfl,rfl,rfl⟩ (
 And.intro ⟨Tryz.underlying17,Tryz.t17,Tryz.type17,rfl,rfl,rfl⟩ (
 And.intro ⟨Tryz.underlying18,Tryz.t18,Tryz.type18,rfl,rfl,rfl⟩ (
 And.intro ⟨Tryz.underlying19,Tryz.t19,Tryz.type19,rfl,rfl,rfl⟩ (
 And.intro ⟨Tryz.underlying21,Tryz.t21,Tryz.type21,rfl,rfl,rfl⟩ (
 And.intro ⟨Tryz.underlying22,Tryz.t22,Tryz.type22,rfl,rfl,rfl⟩ (
 And.intro ⟨Tryz.underlying23,Tryz.t23,Tryz.type23,rfl,rfl,rfl⟩ (
 And.intro ⟨Tryz.underlying24,Tryz.t24,Tryz.type24,rfl,rfl,rfl⟩ (
 And.intro ⟨Tryz.underlying25,Tryz.t25,Tryz.type25,rfl,rfl,rfl⟩ (
 And.intro ⟨Tryz.underlying26,Tryz.t26,Tryz.type26,rfl,rfl,rfl⟩ (
 And.intro ⟨Tryz.underlying27,Tryz.t27,Tryz.type27,rfl,rfl,rfl⟩ (
 And.intro ⟨Tryz.underlying28,Tryz.t28,Tryz.type28,rfl,rfl,rfl⟩ (
 And.intro ⟨Tryz.underlying29,Tryz.t29,Tryz.type29,rfl,rfl,rfl⟩ (
 And.intro ⟨Tryz.underlying30,Tryz.t30,Tryz.type30,rfl,rfl,rfl⟩ (
 And.intro ⟨Tryz.underlying31,Tryz.t31,Tryz.type31,rfl,rfl,rfl⟩ (
 And.intro ⟨Tryz.underlying32,Tryz.t32,Tryz.type32,rfl,rfl,rfl⟩ (
 And.intro ⟨Tryz.underlying33,Tryz.t33,Tryz.type33,rfl,rfl,rfl⟩ (
 And.intro ⟨Tryz.underlying36,Tryz.t36,Tryz.type36,rfl,rfl,rfl⟩ (
 And.intro ⟨Tryz.underlying37,Tryz.t37,Tryz.type37,rfl,rfl,rfl⟩ (
 And.intro ⟨Tryz.underlying40,Tryz.t40,Tryz.type40,rfl,rfl,rfl⟩ (
 And.intro ⟨Tryz.underlying47,Tryz.t47,Tryz.type47,rfl,rfl,rfl⟩ (
 And.intro ⟨Tryz.underlying48,Tryz.t48,Tryz.type48,rfl,rfl,rfl⟩ (
 And.intro ⟨Tryz.underlying73,Tryz.t73,Tryz.type73,rfl,rfl,rfl⟩ (
 And.intro ⟨Tryz.underlying76,Tryz.t76,Tryz.type76,rfl,rfl,rfl⟩ (
 And.intro ⟨Tryz.underlying77,Tryz.t77,Tryz.type77,rfl,rfl,rfl⟩ (
 And.intro ⟨Tryz.underlying80,Tryz.t80,Tryz.type80,rfl,rfl,rfl⟩ (
 And.intro ⟨Tryz.underlying89,Tryz.t89,Tryz.type89,rfl,rfl,rfl⟩ (
 And.intro ⟨Tryz.underlying90,Tryz.t90,Tryz.type90,rfl,rfl,rfl⟩ (
 And.intro ⟨Tryz.underlying95,Tryz.t95,Tryz.type95,rfl,rfl,rfl⟩ (
 And.intro ⟨Tryz.underlying106,Tryz.t106,Tryz.type106,rfl,rfl,rfl⟩ (
 And.intro ⟨Tryz.underlying107,Tryz.t107,Tryz.type107,rfl,rfl,rfl⟩ (
 And.intro ⟨Tryz.underlying113,Tryz.t113,Tryz.type113,rfl,rfl,rfl⟩ (
 And.intro ⟨Tryz.underlying114,Tryz.t114,Tryz.type114,rfl,rfl,rfl⟩ (
 And.intro ⟨Tryz.underlying128,Tryz.t128,Tryz.type128,rfl,rfl,rfl⟩ (
 And.intro ⟨Tryz.underlying130,Tryz.t130,Tryz.type130,rfl,rfl,rfl⟩ (
 And.intro ⟨Tryz.underlying135,Tryz.t135,Tryz.type135,rfl,rfl,rfl⟩ (
 And.intro ⟨Tryz.underlying136,Tryz.t136,Tryz.type136,rfl,rfl,rfl⟩ (
 And.intro ⟨Tryz.underlying137,Tryz.t137,Tryz.type137,rfl,rfl,rfl⟩ (
 And.intro ⟨Tryz.underlying138,Tryz.t138,Tryz.type138,rfl,rfl,rfl⟩ (
 And.intro ⟨Tryz.underlying144,Tryz.t144,Tryz.type144,rfl,rfl,rfl⟩ (
 And.intro ⟨Tryz.underlying149,Tryz.t149,Tryz.type149,rfl,rfl,rfl⟩ (
 And.intro ⟨Tryz.underlying150,Tryz.t150,Tryz.type150,rfl,rfl,rfl⟩ (
 And.intro ⟨Tryz.underlying154,Tryz.t154,Tryz.type154,rfl,rfl,rfl⟩ (
 And.intro ⟨Tryz.underlying155,Tryz.t155,Tryz.type155,rfl,rfl,rfl⟩ (
 And.intro ⟨Tryz.underlying156,Tryz.t156,Tryz.type156,rfl,rfl,rfl⟩ (
 And.intro ⟨Tryz.underlying159,Tryz.t159,Tryz.type159,rfl,rfl,rfl⟩ (
 And.intro ⟨Tryz.underlying161,Tryz.t161,Tryz.type161,rfl,rfl,rfl⟩ (
 And.intro ⟨Tryz.underlying163,Tryz.t163,Tryz.type163,rfl,rfl,rfl⟩ (
 And.intro ⟨Tryz.underlying170,Tryz.t170,Tryz.type170,rfl,rfl,rfl⟩ (
 And.intro ⟨Tryz.underlying171,Tryz.t171,Tryz.type171,rfl,rfl,rfl⟩ (
 And.intro ⟨Tryz.underlying175,Tryz.t175,Tryz.type175,rfl,rfl,rfl⟩ (
 And.intro ⟨Tryz.underlying176,Tryz.t176,Tryz.type176,rfl,rfl,rfl⟩ (
 And.intro ⟨Tryz.underlying179,Tryz.t179,Tryz.type179,rfl,rfl,rfl⟩ (
 And.intro ⟨Tryz.underlying180,Tryz.t180,Tryz.type180,rfl,rfl,rfl⟩ (
 And.intro ⟨Tryz.underlying181,Tryz.t181,Tryz.type181,rfl,rfl,rfl⟩ (
 And.intro ⟨Tryz.underlying182,Tryz.t182,Tryz.type182,rfl,rfl,rfl⟩ (
 And.intro ⟨Tryz.underlying201,Tryz.t201,Tryz.type201,rfl,rfl,rfl⟩ (
 And.intro ⟨Tryz.underlying202,Tryz.t202,Tryz.type202,rfl,rfl,rfl⟩ (
 And.intro ⟨Tryz.underlying203,Tryz.t203,Tryz.type203,rfl,rfl,rfl⟩ (
 And.intro ⟨Tryz.underlying204,Tryz.t204,Tryz.type204,rfl,rfl,rfl⟩ (
 And.intro ⟨Tryz.underlying205,Tryz.t205,Tryz.type205,rfl,rfl,rfl⟩ (
 And.intro ⟨Tryz.underlying206,Tryz.t206,Tryz.type206,rfl,rfl,rfl⟩ (
 And.intro ⟨Tryz.underlying213,Tryz.t213,Tryz.type213,rfl,rfl,rfl⟩ (
 And.intro ⟨Tryz.underlying215,Tryz.t215,Tryz.type215,rfl,rfl,rfl⟩ (
 And.intro ⟨Tryz.underlying216,Tryz.t216,Tryz.type216,rfl,rfl,rfl⟩ (
 And.intro ⟨Tryz.underlying217,Tryz.t217,Tryz.type217,rfl,rfl,rfl⟩ (
 And.intro ⟨Tryz.underlying218,Tryz.t218,Tryz.type218,rfl,rfl,rfl⟩ (
 And.intro ⟨Tryz.underlying220,Tryz.t220,Tryz.type220,rfl,rfl,rfl⟩ (
 And.intro ⟨Tryz.underlying221,Tryz.t221,Tryz.type221,rfl,rfl,rfl⟩ (
 And.intro ⟨Tryz.underlying225,Tryz.t225,Tryz.type225,rfl,rfl,rfl⟩ (
 And.intro ⟨Tryz.underlying227,Tryz.t227,Tryz.type227,rfl,rfl,rfl⟩ (
 And.intro ⟨Tryz.underlying231,Tryz.t231,Tryz.type231,rfl,rfl,rfl⟩ (
 And.intro ⟨Tryz.underlying232,Tryz.t232,Tryz.type232,rfl,rfl,rfl⟩ (
 And.intro ⟨Tryz.underlying233,Tryz.t233,Tryz.type233,rfl,rfl,rfl⟩ (
 And.intro ⟨Tryz.underlying247,Tryz.t247,Tryz.type247,rfl,rfl,rfl⟩ (
 And.intro ⟨Tryz.underlying250,Tryz.t250,Tryz.type250,rfl,rfl,rfl⟩ (
 And.intro ⟨Tryz.underlying251,Tryz.t251,Tryz.type251,rfl,rfl,rfl⟩ (
 And.intro ⟨Tryz.underlying252,Tryz.t252,Tryz.type252,rfl,rfl,rfl⟩ (
 And.intro ⟨Tryz.underlying254,Tryz.t254,Tryz.type254,rfl,rfl,rfl⟩ (
 And.intro ⟨Tryz.underlying255,Tryz.t255,Tryz.type255,rfl,rfl,rfl⟩ (
 And.intro ⟨Tryz.underlying256,Tryz.t256,Tryz.type256,rfl,rfl,rfl⟩ (
 And.intro ⟨Tryz.underlying257,Tryz.t257,Tryz.type257,rfl,rfl,rfl⟩ (
 And.intro ⟨Tryz.underlying258,Tryz.t258,Tryz.type258,rfl,rfl,rfl⟩ (
 And.intro ⟨Tryz.underlying279,Tryz.t279,Tryz.type279,rfl,rfl,rfl⟩ (
 And.intro ⟨Tryz.underlying283,Tryz.t283,Tryz.type283,rfl,rfl,rfl⟩ (
 And.intro ⟨Tryz.underlying293,Tryz.t293,Tryz.type293,rfl,rfl,rfl⟩ (
 And.intro ⟨Tryz.underlying294,Tryz.t294,Tryz.type294,rfl,rfl,rfl⟩ (
 And.intro ⟨Tryz.underlying296,Tryz.t296,Tryz.type296,rfl,rfl,rfl⟩ (
 And.intro ⟨Tryz.underlying309,Tryz.t309,Tryz.type309,rfl,rfl,rfl⟩ (
 And.intro ⟨Tryz.underlying310,Tryz.t310,Tryz.type310,rfl,rfl,rfl⟩ (
 And.intro ⟨Tryz.underlying314,Tryz.t314,Tryz.type314,rfl,rfl,rfl⟩ (
 And.intro ⟨Tryz.underlying321,Tryz.t321,Tryz.type321,rfl,rfl,rfl⟩ (
 And.intro ⟨Tryz.underlying322,Tryz.t322,Tryz.type322,rfl,rfl,rfl⟩ (
 And.intro ⟨Tryz.underlying326,Tryz.t326,Tryz.type326,rfl,rfl,rfl⟩ (
 And.intro ⟨Tryz.underlying341,Tryz.t341,Tryz.type341,rfl,rfl,rfl⟩ (
 And.intro ⟨Tryz.underlying346,Tryz.t346,Tryz.type346,rfl,rfl,rfl⟩ (
 And.intro ⟨Tryz.underlying355,Tryz.t355,Tryz.type355,rfl,rfl,rfl⟩ (
 And.intro ⟨Tryz.underlying390,Tryz.t390,Tryz.type390,rfl,rfl,rfl⟩ (
 And.intro ⟨Tryz.underlying424,Tryz.t424,Tryz.type424,rfl,rfl,rfl⟩ (
 And.intro ⟨Tryz.underlying459,Tryz.t459,Tryz.type459,rfl,rfl,rfl⟩ (
 And.intro ⟨Tryz.underlying461,Tryz.t461,Tryz.type461,rfl,rfl,rfl⟩ (
 And.intro ⟨Tryz.underlying462,Tryz.t462,Tryz.type462,rfl,rfl,rfl⟩ (
 And.intro ⟨Tryz.underlying463,Tryz.t463,Tryz.type463,rfl,rfl,rfl⟩ (
 And.intro ⟨Tryz.underlying465,Tryz.t465,Tryz.type465,rfl,rfl,rfl⟩ (
 And.intro ⟨Tryz.underlying466,Tryz.t466,Tryz.type466,rfl,rfl,rfl⟩ (
 And.intro ⟨Tryz.underlying467,Tryz.t467,Tryz.type467,rfl,rfl,rfl⟩ (
 And.intro ⟨Tryz.underlying469,Tryz.t469,Tryz.type469,rfl,rfl,rfl⟩ (
 And.intro ⟨Tryz.underlying470,Tryz.t470,Tryz.type470,rfl,rfl,rfl⟩ (
 And.intro ⟨Tryz.underlying472,Tryz.t472,Tryz.type472,rfl,rfl,rfl⟩ (trivial))))))))))))))))))))))))))))))))))))))))))))))))))))))))))))))))))))))))))))))))))))))))))))))))))))))))))))))))))))))))))))
theorem hmix:Tryz.prog.follows .mixedOrders=true:=by kernel_rfl
end Go.Proofs.YtjmlnnanfkiakaaGreatDoor
